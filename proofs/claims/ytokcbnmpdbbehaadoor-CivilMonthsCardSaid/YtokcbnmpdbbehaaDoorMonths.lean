/-
  THE LAW CivilMonths, walked.
-/
import Derived.Test.YtokcbnmpdbbehaaDoorPrintNo
namespace Go.Proofs.YtokcbnmpdbbehaaDoor.civilMonths
open Go Go.RowKit CivM NumM

theorem long_no' (y m : Int) (w : World) (h : ¬ (-100000 ≤ y ∧ y ≤ 100000 ∧ 1 ≤ m ∧ m ≤ 12)) :
    Calls Tryd.prog 9 #[.int .i64 y, .int .i64 m] w fun e w' => e = .returned (.tuple #[.int .i64 0, .int .i64 10]) ∧ Below w.heap.size w w' :=
  (long_no y m w h).mono fun _ _ ⟨h1, h2⟩ => ⟨h1, h2 ▸ Below.refl _ _⟩
set_option maxHeartbeats 4000000 in
theorem walk_ok (a b y m d : Int) (w : World) (hA : Ahead w) (hP : Pow w) (ha1 : -100000 ≤ a) (ha2 : a ≤ 100000) (hb1 : 1 ≤ b) (hb2 : b ≤ 12) :
    Calls Tryd.prog 3 #[.int .i64 a, .int .i64 b, .agg #[.int .i64 y, .int .i64 m, .int .i64 d]] w (One w) := by
  by_cases h : Valid y m d
  ·
    have HAw := Lib.hid hA
    have HPw := Lib.hid hP
    have HV := Lib.hid h
    clear hA hP h
    go_enter Tryd.func3, Tryd.ntmps3
    have HB0 := Lib.hid ((Below.refl w.heap.size w).alloc (Nat.le_refl _) (.cells #[.int .i64 y, .int .i64 m, .int .i64 d] 23))
    have HA0 := Lib.hid (HAw.out.below HB0.out)
    have HD0 := Lib.hid (Dt.new w y m d)
    go_wp2_with fail
    refine (long_ok a b _ HA0.out ha1 ha2 hb1 hb2).mono ?_
    rintro e w1 ⟨rfl, hb⟩
    have HBw1 := Lib.hid (HB0.out.trans (hb.mono HB0.out.size))
    have HAw1 := Lib.hid (HA0.out.below hb)
    have HDw1 := Lib.hid (HD0.out.below hb HD0.out.lt)
    obtain ⟨c0, c1, c2⟩ := HDw1.out.cells
    clear hb
    go_wp2_with fail
    have ne := bw_ne w1
    have C0 := bw_cell c0
    have C1 := bw_cell c1
    have C2 := bw_cell c2
    refine wp_region_bw (by kernel_rfl) (by kernel_rfl) ?_
    repeat (go_big_quiet_step (first
      | (go_at_call 10; exact calls_bw_same (leap_any _ _))
      | (go_at_call 11; exact calls_bw_same (rleap_any _ _))
      | (go_at_call 12; exact calls_bw (check_ok _ _ _ _ (HAw1.out.below (Subtype.property _)) HV.out))
      | (go_at_call 13; exact calls_bw (right_ok _ _ _ _ HV.out))))
    refine wpQuiet_nil ?_
    intro w9 hw9
    obtain ⟨⟨w8, hb8⟩, e8⟩ := hw9
    have e9 : w9 = w8 := e8
    subst e9
    have HB9 := Lib.hid (HBw1.out.trans (hb8.mono HBw1.out.size))
    have HA9 := Lib.hid (HAw1.out.below hb8)
    clear C0 C1 C2 c0 c1 c2 hb8 e8 ne
    go_wp2_with fail
    refine (rlong_any a b _).mono ?_
    rintro e w' ⟨rfl, rfl⟩
    go_wp2_with fail
    refine (awake_any _ HA9.out (HPw.out.below HB9.out)).mono ?_
    rintro e w2 ⟨rfl, hb⟩
    have HBw2 := Lib.hid (HB9.out.trans (hb.mono HB9.out.size))
    have HAw2 := Lib.hid (HA9.out.below hb)
    clear hb
    go_wp2_with fail
    go_ret
    exact ⟨rfl, HBw2.out⟩
  ·
    have HAw := Lib.hid hA
    have HPw := Lib.hid hP
    have HV := Lib.hid h
    clear hA hP h
    go_enter Tryd.func3, Tryd.ntmps3
    have HB0 := Lib.hid ((Below.refl w.heap.size w).alloc (Nat.le_refl _) (.cells #[.int .i64 y, .int .i64 m, .int .i64 d] 23))
    have HA0 := Lib.hid (HAw.out.below HB0.out)
    have HD0 := Lib.hid (Dt.new w y m d)
    go_wp2_with fail
    refine (long_ok a b _ HA0.out ha1 ha2 hb1 hb2).mono ?_
    rintro e w1 ⟨rfl, hb⟩
    have HBw1 := Lib.hid (HB0.out.trans (hb.mono HB0.out.size))
    have HAw1 := Lib.hid (HA0.out.below hb)
    have HDw1 := Lib.hid (HD0.out.below hb HD0.out.lt)
    obtain ⟨c0, c1, c2⟩ := HDw1.out.cells
    clear hb
    go_wp2_with fail
    have ne := bw_ne w1
    have C0 := bw_cell c0
    have C1 := bw_cell c1
    have C2 := bw_cell c2
    refine wp_region_bw (by kernel_rfl) (by kernel_rfl) ?_
    repeat (go_big_quiet_step (first
      | (go_at_call 10; exact calls_bw_same (leap_any _ _))
      | (go_at_call 11; exact calls_bw_same (rleap_any _ _))
      | (go_at_call 12; exact calls_bw (check_no _ _ _ _ (HAw1.out.below (Subtype.property _)) HV.out))
      | (go_at_call 13; exact calls_bw (right_no _ _ _ _ HV.out))))
    refine wpQuiet_nil ?_
    intro w9 hw9
    obtain ⟨⟨w8, hb8⟩, e8⟩ := hw9
    have e9 : w9 = w8 := e8
    subst e9
    have HB9 := Lib.hid (HBw1.out.trans (hb8.mono HBw1.out.size))
    have HA9 := Lib.hid (HAw1.out.below hb8)
    clear C0 C1 C2 c0 c1 c2 hb8 e8 ne
    go_wp2_with fail
    refine (rlong_any a b _).mono ?_
    rintro e w' ⟨rfl, rfl⟩
    go_wp2_with fail
    refine (awake_any _ HA9.out (HPw.out.below HB9.out)).mono ?_
    rintro e w2 ⟨rfl, hb⟩
    have HBw2 := Lib.hid (HB9.out.trans (hb.mono HB9.out.size))
    have HAw2 := Lib.hid (HA9.out.below hb)
    clear hb
    go_wp2_with fail
    go_ret
    exact ⟨rfl, HBw2.out⟩
set_option maxHeartbeats 8000000 in
theorem walk_no (a b y m d : Int) (w : World) (hA : Ahead w) (hP : Pow w) (hr : ¬ (-100000 ≤ a ∧ a ≤ 100000 ∧ 1 ≤ b ∧ b ≤ 12)) :
    Calls Tryd.prog 3 #[.int .i64 a, .int .i64 b, .agg #[.int .i64 y, .int .i64 m, .int .i64 d]] w (One w) := by
  have HR := Lib.hid hr
  by_cases a1 : a < -100000
  ·
    clear hr
    by_cases h : Valid y m d
    ·
      have HAw := Lib.hid hA
      have HPw := Lib.hid hP
      have HV := Lib.hid h
      clear hA hP h
      go_enter Tryd.func3, Tryd.ntmps3
      have HB0 := Lib.hid ((Below.refl w.heap.size w).alloc (Nat.le_refl _) (.cells #[.int .i64 y, .int .i64 m, .int .i64 d] 23))
      have HA0 := Lib.hid (HAw.out.below HB0.out)
      have HD0 := Lib.hid (Dt.new w y m d)
      go_wp2_with fail
      refine (long_no' a b _ HR.out).mono ?_
      rintro e w1 ⟨rfl, hb⟩
      have HBw1 := Lib.hid (HB0.out.trans (hb.mono HB0.out.size))
      have HAw1 := Lib.hid (HA0.out.below hb)
      have HDw1 := Lib.hid (HD0.out.below hb HD0.out.lt)
      obtain ⟨c0, c1, c2⟩ := HDw1.out.cells
      clear hb
      go_wp2_with fail
      have ne := bw_ne w1
      have C0 := bw_cell c0
      have C1 := bw_cell c1
      have C2 := bw_cell c2
      refine wp_region_bw (by kernel_rfl) (by kernel_rfl) ?_
      repeat (go_big_quiet_step (first
        | (go_at_call 10; exact calls_bw_same (leap_any _ _))
        | (go_at_call 11; exact calls_bw_same (rleap_any _ _))
        | (go_at_call 12; exact calls_bw (check_ok _ _ _ _ (HAw1.out.below (Subtype.property _)) HV.out))
        | (go_at_call 13; exact calls_bw (right_ok _ _ _ _ HV.out))))
      refine wpQuiet_nil ?_
      intro w9 hw9
      obtain ⟨⟨w8, hb8⟩, e8⟩ := hw9
      have e9 : w9 = w8 := e8
      subst e9
      have HB9 := Lib.hid (HBw1.out.trans (hb8.mono HBw1.out.size))
      have HA9 := Lib.hid (HAw1.out.below hb8)
      clear C0 C1 C2 c0 c1 c2 hb8 e8 ne
      go_wp2_with fail
      refine (awake_any _ HA9.out (HPw.out.below HB9.out)).mono ?_
      rintro e w2 ⟨rfl, hb⟩
      have HBw2 := Lib.hid (HB9.out.trans (hb.mono HB9.out.size))
      have HAw2 := Lib.hid (HA9.out.below hb)
      clear hb
      go_wp2_with fail
      go_ret
      exact ⟨rfl, HBw2.out⟩
    ·
      have HAw := Lib.hid hA
      have HPw := Lib.hid hP
      have HV := Lib.hid h
      clear hA hP h
      go_enter Tryd.func3, Tryd.ntmps3
      have HB0 := Lib.hid ((Below.refl w.heap.size w).alloc (Nat.le_refl _) (.cells #[.int .i64 y, .int .i64 m, .int .i64 d] 23))
      have HA0 := Lib.hid (HAw.out.below HB0.out)
      have HD0 := Lib.hid (Dt.new w y m d)
      go_wp2_with fail
      refine (long_no' a b _ HR.out).mono ?_
      rintro e w1 ⟨rfl, hb⟩
      have HBw1 := Lib.hid (HB0.out.trans (hb.mono HB0.out.size))
      have HAw1 := Lib.hid (HA0.out.below hb)
      have HDw1 := Lib.hid (HD0.out.below hb HD0.out.lt)
      obtain ⟨c0, c1, c2⟩ := HDw1.out.cells
      clear hb
      go_wp2_with fail
      have ne := bw_ne w1
      have C0 := bw_cell c0
      have C1 := bw_cell c1
      have C2 := bw_cell c2
      refine wp_region_bw (by kernel_rfl) (by kernel_rfl) ?_
      repeat (go_big_quiet_step (first
        | (go_at_call 10; exact calls_bw_same (leap_any _ _))
        | (go_at_call 11; exact calls_bw_same (rleap_any _ _))
        | (go_at_call 12; exact calls_bw (check_no _ _ _ _ (HAw1.out.below (Subtype.property _)) HV.out))
        | (go_at_call 13; exact calls_bw (right_no _ _ _ _ HV.out))))
      refine wpQuiet_nil ?_
      intro w9 hw9
      obtain ⟨⟨w8, hb8⟩, e8⟩ := hw9
      have e9 : w9 = w8 := e8
      subst e9
      have HB9 := Lib.hid (HBw1.out.trans (hb8.mono HBw1.out.size))
      have HA9 := Lib.hid (HAw1.out.below hb8)
      clear C0 C1 C2 c0 c1 c2 hb8 e8 ne
      go_wp2_with fail
      refine (awake_any _ HA9.out (HPw.out.below HB9.out)).mono ?_
      rintro e w2 ⟨rfl, hb⟩
      have HBw2 := Lib.hid (HB9.out.trans (hb.mono HB9.out.size))
      have HAw2 := Lib.hid (HA9.out.below hb)
      clear hb
      go_wp2_with fail
      go_ret
      exact ⟨rfl, HBw2.out⟩
  · by_cases a2 : 100000 < a
    ·
      clear hr
      by_cases h : Valid y m d
      ·
        have HAw := Lib.hid hA
        have HPw := Lib.hid hP
        have HV := Lib.hid h
        clear hA hP h
        go_enter Tryd.func3, Tryd.ntmps3
        have HB0 := Lib.hid ((Below.refl w.heap.size w).alloc (Nat.le_refl _) (.cells #[.int .i64 y, .int .i64 m, .int .i64 d] 23))
        have HA0 := Lib.hid (HAw.out.below HB0.out)
        have HD0 := Lib.hid (Dt.new w y m d)
        go_wp2_with fail
        refine (long_no' a b _ HR.out).mono ?_
        rintro e w1 ⟨rfl, hb⟩
        have HBw1 := Lib.hid (HB0.out.trans (hb.mono HB0.out.size))
        have HAw1 := Lib.hid (HA0.out.below hb)
        have HDw1 := Lib.hid (HD0.out.below hb HD0.out.lt)
        obtain ⟨c0, c1, c2⟩ := HDw1.out.cells
        clear hb
        go_wp2_with fail
        have ne := bw_ne w1
        have C0 := bw_cell c0
        have C1 := bw_cell c1
        have C2 := bw_cell c2
        refine wp_region_bw (by kernel_rfl) (by kernel_rfl) ?_
        repeat (go_big_quiet_step (first
          | (go_at_call 10; exact calls_bw_same (leap_any _ _))
          | (go_at_call 11; exact calls_bw_same (rleap_any _ _))
          | (go_at_call 12; exact calls_bw (check_ok _ _ _ _ (HAw1.out.below (Subtype.property _)) HV.out))
          | (go_at_call 13; exact calls_bw (right_ok _ _ _ _ HV.out))))
        refine wpQuiet_nil ?_
        intro w9 hw9
        obtain ⟨⟨w8, hb8⟩, e8⟩ := hw9
        have e9 : w9 = w8 := e8
        subst e9
        have HB9 := Lib.hid (HBw1.out.trans (hb8.mono HBw1.out.size))
        have HA9 := Lib.hid (HAw1.out.below hb8)
        clear C0 C1 C2 c0 c1 c2 hb8 e8 ne
        go_wp2_with fail
        refine (awake_any _ HA9.out (HPw.out.below HB9.out)).mono ?_
        rintro e w2 ⟨rfl, hb⟩
        have HBw2 := Lib.hid (HB9.out.trans (hb.mono HB9.out.size))
        have HAw2 := Lib.hid (HA9.out.below hb)
        clear hb
        go_wp2_with fail
        go_ret
        exact ⟨rfl, HBw2.out⟩
      ·
        have HAw := Lib.hid hA
        have HPw := Lib.hid hP
        have HV := Lib.hid h
        clear hA hP h
        go_enter Tryd.func3, Tryd.ntmps3
        have HB0 := Lib.hid ((Below.refl w.heap.size w).alloc (Nat.le_refl _) (.cells #[.int .i64 y, .int .i64 m, .int .i64 d] 23))
        have HA0 := Lib.hid (HAw.out.below HB0.out)
        have HD0 := Lib.hid (Dt.new w y m d)
        go_wp2_with fail
        refine (long_no' a b _ HR.out).mono ?_
        rintro e w1 ⟨rfl, hb⟩
        have HBw1 := Lib.hid (HB0.out.trans (hb.mono HB0.out.size))
        have HAw1 := Lib.hid (HA0.out.below hb)
        have HDw1 := Lib.hid (HD0.out.below hb HD0.out.lt)
        obtain ⟨c0, c1, c2⟩ := HDw1.out.cells
        clear hb
        go_wp2_with fail
        have ne := bw_ne w1
        have C0 := bw_cell c0
        have C1 := bw_cell c1
        have C2 := bw_cell c2
        refine wp_region_bw (by kernel_rfl) (by kernel_rfl) ?_
        repeat (go_big_quiet_step (first
          | (go_at_call 10; exact calls_bw_same (leap_any _ _))
          | (go_at_call 11; exact calls_bw_same (rleap_any _ _))
          | (go_at_call 12; exact calls_bw (check_no _ _ _ _ (HAw1.out.below (Subtype.property _)) HV.out))
          | (go_at_call 13; exact calls_bw (right_no _ _ _ _ HV.out))))
        refine wpQuiet_nil ?_
        intro w9 hw9
        obtain ⟨⟨w8, hb8⟩, e8⟩ := hw9
        have e9 : w9 = w8 := e8
        subst e9
        have HB9 := Lib.hid (HBw1.out.trans (hb8.mono HBw1.out.size))
        have HA9 := Lib.hid (HAw1.out.below hb8)
        clear C0 C1 C2 c0 c1 c2 hb8 e8 ne
        go_wp2_with fail
        refine (awake_any _ HA9.out (HPw.out.below HB9.out)).mono ?_
        rintro e w2 ⟨rfl, hb⟩
        have HBw2 := Lib.hid (HB9.out.trans (hb.mono HB9.out.size))
        have HAw2 := Lib.hid (HA9.out.below hb)
        clear hb
        go_wp2_with fail
        go_ret
        exact ⟨rfl, HBw2.out⟩
    · by_cases a3 : b < 1
      ·
        clear hr
        by_cases h : Valid y m d
        ·
          have HAw := Lib.hid hA
          have HPw := Lib.hid hP
          have HV := Lib.hid h
          clear hA hP h
          go_enter Tryd.func3, Tryd.ntmps3
          have HB0 := Lib.hid ((Below.refl w.heap.size w).alloc (Nat.le_refl _) (.cells #[.int .i64 y, .int .i64 m, .int .i64 d] 23))
          have HA0 := Lib.hid (HAw.out.below HB0.out)
          have HD0 := Lib.hid (Dt.new w y m d)
          go_wp2_with fail
          refine (long_no' a b _ HR.out).mono ?_
          rintro e w1 ⟨rfl, hb⟩
          have HBw1 := Lib.hid (HB0.out.trans (hb.mono HB0.out.size))
          have HAw1 := Lib.hid (HA0.out.below hb)
          have HDw1 := Lib.hid (HD0.out.below hb HD0.out.lt)
          obtain ⟨c0, c1, c2⟩ := HDw1.out.cells
          clear hb
          go_wp2_with fail
          have ne := bw_ne w1
          have C0 := bw_cell c0
          have C1 := bw_cell c1
          have C2 := bw_cell c2
          refine wp_region_bw (by kernel_rfl) (by kernel_rfl) ?_
          repeat (go_big_quiet_step (first
            | (go_at_call 10; exact calls_bw_same (leap_any _ _))
            | (go_at_call 11; exact calls_bw_same (rleap_any _ _))
            | (go_at_call 12; exact calls_bw (check_ok _ _ _ _ (HAw1.out.below (Subtype.property _)) HV.out))
            | (go_at_call 13; exact calls_bw (right_ok _ _ _ _ HV.out))))
          refine wpQuiet_nil ?_
          intro w9 hw9
          obtain ⟨⟨w8, hb8⟩, e8⟩ := hw9
          have e9 : w9 = w8 := e8
          subst e9
          have HB9 := Lib.hid (HBw1.out.trans (hb8.mono HBw1.out.size))
          have HA9 := Lib.hid (HAw1.out.below hb8)
          clear C0 C1 C2 c0 c1 c2 hb8 e8 ne
          go_wp2_with fail
          refine (awake_any _ HA9.out (HPw.out.below HB9.out)).mono ?_
          rintro e w2 ⟨rfl, hb⟩
          have HBw2 := Lib.hid (HB9.out.trans (hb.mono HB9.out.size))
          have HAw2 := Lib.hid (HA9.out.below hb)
          clear hb
          go_wp2_with fail
          go_ret
          exact ⟨rfl, HBw2.out⟩
        ·
          have HAw := Lib.hid hA
          have HPw := Lib.hid hP
          have HV := Lib.hid h
          clear hA hP h
          go_enter Tryd.func3, Tryd.ntmps3
          have HB0 := Lib.hid ((Below.refl w.heap.size w).alloc (Nat.le_refl _) (.cells #[.int .i64 y, .int .i64 m, .int .i64 d] 23))
          have HA0 := Lib.hid (HAw.out.below HB0.out)
          have HD0 := Lib.hid (Dt.new w y m d)
          go_wp2_with fail
          refine (long_no' a b _ HR.out).mono ?_
          rintro e w1 ⟨rfl, hb⟩
          have HBw1 := Lib.hid (HB0.out.trans (hb.mono HB0.out.size))
          have HAw1 := Lib.hid (HA0.out.below hb)
          have HDw1 := Lib.hid (HD0.out.below hb HD0.out.lt)
          obtain ⟨c0, c1, c2⟩ := HDw1.out.cells
          clear hb
          go_wp2_with fail
          have ne := bw_ne w1
          have C0 := bw_cell c0
          have C1 := bw_cell c1
          have C2 := bw_cell c2
          refine wp_region_bw (by kernel_rfl) (by kernel_rfl) ?_
          repeat (go_big_quiet_step (first
            | (go_at_call 10; exact calls_bw_same (leap_any _ _))
            | (go_at_call 11; exact calls_bw_same (rleap_any _ _))
            | (go_at_call 12; exact calls_bw (check_no _ _ _ _ (HAw1.out.below (Subtype.property _)) HV.out))
            | (go_at_call 13; exact calls_bw (right_no _ _ _ _ HV.out))))
          refine wpQuiet_nil ?_
          intro w9 hw9
          obtain ⟨⟨w8, hb8⟩, e8⟩ := hw9
          have e9 : w9 = w8 := e8
          subst e9
          have HB9 := Lib.hid (HBw1.out.trans (hb8.mono HBw1.out.size))
          have HA9 := Lib.hid (HAw1.out.below hb8)
          clear C0 C1 C2 c0 c1 c2 hb8 e8 ne
          go_wp2_with fail
          refine (awake_any _ HA9.out (HPw.out.below HB9.out)).mono ?_
          rintro e w2 ⟨rfl, hb⟩
          have HBw2 := Lib.hid (HB9.out.trans (hb.mono HB9.out.size))
          have HAw2 := Lib.hid (HA9.out.below hb)
          clear hb
          go_wp2_with fail
          go_ret
          exact ⟨rfl, HBw2.out⟩
      · have a4 : 12 < b := by omega
        clear hr
        by_cases h : Valid y m d
        ·
          have HAw := Lib.hid hA
          have HPw := Lib.hid hP
          have HV := Lib.hid h
          clear hA hP h
          go_enter Tryd.func3, Tryd.ntmps3
          have HB0 := Lib.hid ((Below.refl w.heap.size w).alloc (Nat.le_refl _) (.cells #[.int .i64 y, .int .i64 m, .int .i64 d] 23))
          have HA0 := Lib.hid (HAw.out.below HB0.out)
          have HD0 := Lib.hid (Dt.new w y m d)
          go_wp2_with fail
          refine (long_no' a b _ HR.out).mono ?_
          rintro e w1 ⟨rfl, hb⟩
          have HBw1 := Lib.hid (HB0.out.trans (hb.mono HB0.out.size))
          have HAw1 := Lib.hid (HA0.out.below hb)
          have HDw1 := Lib.hid (HD0.out.below hb HD0.out.lt)
          obtain ⟨c0, c1, c2⟩ := HDw1.out.cells
          clear hb
          go_wp2_with fail
          have ne := bw_ne w1
          have C0 := bw_cell c0
          have C1 := bw_cell c1
          have C2 := bw_cell c2
          refine wp_region_bw (by kernel_rfl) (by kernel_rfl) ?_
          repeat (go_big_quiet_step (first
            | (go_at_call 10; exact calls_bw_same (leap_any _ _))
            | (go_at_call 11; exact calls_bw_same (rleap_any _ _))
            | (go_at_call 12; exact calls_bw (check_ok _ _ _ _ (HAw1.out.below (Subtype.property _)) HV.out))
            | (go_at_call 13; exact calls_bw (right_ok _ _ _ _ HV.out))))
          refine wpQuiet_nil ?_
          intro w9 hw9
          obtain ⟨⟨w8, hb8⟩, e8⟩ := hw9
          have e9 : w9 = w8 := e8
          subst e9
          have HB9 := Lib.hid (HBw1.out.trans (hb8.mono HBw1.out.size))
          have HA9 := Lib.hid (HAw1.out.below hb8)
          clear C0 C1 C2 c0 c1 c2 hb8 e8 ne
          go_wp2_with fail
          refine (awake_any _ HA9.out (HPw.out.below HB9.out)).mono ?_
          rintro e w2 ⟨rfl, hb⟩
          have HBw2 := Lib.hid (HB9.out.trans (hb.mono HB9.out.size))
          have HAw2 := Lib.hid (HA9.out.below hb)
          clear hb
          go_wp2_with fail
          go_ret
          exact ⟨rfl, HBw2.out⟩
        ·
          have HAw := Lib.hid hA
          have HPw := Lib.hid hP
          have HV := Lib.hid h
          clear hA hP h
          go_enter Tryd.func3, Tryd.ntmps3
          have HB0 := Lib.hid ((Below.refl w.heap.size w).alloc (Nat.le_refl _) (.cells #[.int .i64 y, .int .i64 m, .int .i64 d] 23))
          have HA0 := Lib.hid (HAw.out.below HB0.out)
          have HD0 := Lib.hid (Dt.new w y m d)
          go_wp2_with fail
          refine (long_no' a b _ HR.out).mono ?_
          rintro e w1 ⟨rfl, hb⟩
          have HBw1 := Lib.hid (HB0.out.trans (hb.mono HB0.out.size))
          have HAw1 := Lib.hid (HA0.out.below hb)
          have HDw1 := Lib.hid (HD0.out.below hb HD0.out.lt)
          obtain ⟨c0, c1, c2⟩ := HDw1.out.cells
          clear hb
          go_wp2_with fail
          have ne := bw_ne w1
          have C0 := bw_cell c0
          have C1 := bw_cell c1
          have C2 := bw_cell c2
          refine wp_region_bw (by kernel_rfl) (by kernel_rfl) ?_
          repeat (go_big_quiet_step (first
            | (go_at_call 10; exact calls_bw_same (leap_any _ _))
            | (go_at_call 11; exact calls_bw_same (rleap_any _ _))
            | (go_at_call 12; exact calls_bw (check_no _ _ _ _ (HAw1.out.below (Subtype.property _)) HV.out))
            | (go_at_call 13; exact calls_bw (right_no _ _ _ _ HV.out))))
          refine wpQuiet_nil ?_
          intro w9 hw9
          obtain ⟨⟨w8, hb8⟩, e8⟩ := hw9
          have e9 : w9 = w8 := e8
          subst e9
          have HB9 := Lib.hid (HBw1.out.trans (hb8.mono HBw1.out.size))
          have HA9 := Lib.hid (HAw1.out.below hb8)
          clear C0 C1 C2 c0 c1 c2 hb8 e8 ne
          go_wp2_with fail
          refine (awake_any _ HA9.out (HPw.out.below HB9.out)).mono ?_
          rintro e w2 ⟨rfl, hb⟩
          have HBw2 := Lib.hid (HB9.out.trans (hb.mono HB9.out.size))
          have HAw2 := Lib.hid (HA9.out.below hb)
          clear hb
          go_wp2_with fail
          go_ret
          exact ⟨rfl, HBw2.out⟩
end Go.Proofs.YtokcbnmpdbbehaaDoor.civilMonths
