/-
  THE WALKS of the layer civil, second part: which dates there are, days of dates.
-/
import Derived.Test.YtmkbfjklhejdnaaDoorCivWalk
namespace Go.Proofs.YtmkbfjklhejdnaaDoor
open Go Go.RowKit CivM NumM

theorem check_ok (y m d : Int) (w : World) (hA : Ahead w) (h : Valid y m d) :
    Calls Tryd.prog 35 #[.agg #[.int .i64 y, .int .i64 m, .int .i64 d]] w fun e w' => e = .returned (.int .i64 0) ∧ Below w.heap.size w w' := by
  obtain ⟨y1, y2, m1, m2, d1, d2⟩ := h
  have HAw := Lib.hid hA
  have HBw := Lib.hid (Below.refl w.heap.size w)
  clear hA
  go_enter Tryd.func35, Tryd.ntmps35
  have HB0 := Lib.hid ((Below.refl w.heap.size w).alloc (Nat.le_refl _) (.cells #[.int .i64 y, .int .i64 m, .int .i64 d] 31))
  have HA0 := Lib.hid (HAw.out.below HB0.out)
  have HD0 := Lib.hid (Dt.new w y m d)
  go_wp2_with fail
  refine (long_ok y m _ HA0.out y1 y2 m1 m2).mono ?_
  rintro e w1 ⟨rfl, hb⟩
  have HBw1 := Lib.hid (HB0.out.trans (hb.mono HB0.out.size))
  have HAw1 := Lib.hid (HA0.out.below hb)
  have HDw1 := Lib.hid (HD0.out.below hb HD0.out.lt)
  obtain ⟨c0, c1, c2⟩ := HDw1.out.cells
  clear hb
  go_wp2_with fail
  go_ret
  exact ⟨rfl, HBw1.out⟩
theorem check_no (y m d : Int) (w : World) (hA : Ahead w) (h : ¬ Valid y m d) :
    Calls Tryd.prog 35 #[.agg #[.int .i64 y, .int .i64 m, .int .i64 d]] w fun e w' => e = .returned (.int .i64 10) ∧ Below w.heap.size w w' := by
  have HAw := Lib.hid hA
  have HBw := Lib.hid (Below.refl w.heap.size w)
  clear hA
  by_cases hr : -100000 ≤ y ∧ y ≤ 100000 ∧ 1 ≤ m ∧ m ≤ 12
  · obtain ⟨y1, y2, m1, m2⟩ := hr
    by_cases hd : d < 1
    · clear h
      go_enter Tryd.func35, Tryd.ntmps35
      have HB0 := Lib.hid ((Below.refl w.heap.size w).alloc (Nat.le_refl _) (.cells #[.int .i64 y, .int .i64 m, .int .i64 d] 31))
      have HA0 := Lib.hid (HAw.out.below HB0.out)
      have HD0 := Lib.hid (Dt.new w y m d)
      go_wp2_with fail
      refine (long_ok y m _ HA0.out y1 y2 m1 m2).mono ?_
      rintro e w1 ⟨rfl, hb⟩
      have HBw1 := Lib.hid (HB0.out.trans (hb.mono HB0.out.size))
      have HAw1 := Lib.hid (HA0.out.below hb)
      have HDw1 := Lib.hid (HD0.out.below hb HD0.out.lt)
      obtain ⟨c0, c1, c2⟩ := HDw1.out.cells
      clear hb
      go_wp2_with fail
      go_ret
      exact ⟨rfl, HBw1.out⟩
    · have hd2 : dim y m < d := Classical.byContradiction fun hn => h ⟨y1, y2, m1, m2, by omega, by omega⟩
      clear h
      go_enter Tryd.func35, Tryd.ntmps35
      have HB0 := Lib.hid ((Below.refl w.heap.size w).alloc (Nat.le_refl _) (.cells #[.int .i64 y, .int .i64 m, .int .i64 d] 31))
      have HA0 := Lib.hid (HAw.out.below HB0.out)
      have HD0 := Lib.hid (Dt.new w y m d)
      go_wp2_with fail
      refine (long_ok y m _ HA0.out y1 y2 m1 m2).mono ?_
      rintro e w1 ⟨rfl, hb⟩
      have HBw1 := Lib.hid (HB0.out.trans (hb.mono HB0.out.size))
      have HAw1 := Lib.hid (HA0.out.below hb)
      have HDw1 := Lib.hid (HD0.out.below hb HD0.out.lt)
      obtain ⟨c0, c1, c2⟩ := HDw1.out.cells
      clear hb
      go_wp2_with fail
      go_ret
      exact ⟨rfl, HBw1.out⟩
  · have HR := Lib.hid hr
    clear h hr
    go_enter Tryd.func35, Tryd.ntmps35
    have HB0 := Lib.hid ((Below.refl w.heap.size w).alloc (Nat.le_refl _) (.cells #[.int .i64 y, .int .i64 m, .int .i64 d] 31))
    have HA0 := Lib.hid (HAw.out.below HB0.out)
    have HD0 := Lib.hid (Dt.new w y m d)
    go_wp2_with fail
    refine (long_no y m _ HR.out).mono ?_
    rintro e w' ⟨rfl, rfl⟩
    go_wp2_with fail
    go_ret
    exact ⟨rfl, HB0.out⟩
theorem floor_pos (a b : Int) (w : World) (ha : Fits a) (h0 : 0 < b) :
    Calls Tryd.prog 50 #[.int .i64 a, .int .i64 b] w fun e w' => e = .returned (.int .i64 (a / b)) ∧ w = w' := by
  have HF := Lib.hid ha
  clear ha
  go_enter Tryd.func50, Tryd.ntmps50
  go_wp2_with fail
  refine (div_pos a b _ HF.out h0).mono ?_
  rintro e w' ⟨rfl, rfl⟩
  go_wp2_with fail
  go_ret
  exact ⟨rfl, rfl⟩
theorem year_any (y : Int) (w : World) (h1 : -200000 ≤ y) (h2 : y ≤ 200000) :
    Calls Tryd.prog 36 #[.int .i64 y] w fun e w' => e = .returned (.int .i64 (dy y)) ∧ w = w' := by
  have HF := Lib.hid (show Fits (y - 1) from ⟨by omega, by omega⟩)
  have E := Lib.hid (show dy y = (y - 1) * 365 + (y - 1) / 4 - (y - 1) / 100 + (y - 1) / 400 - 719162 from rfl)
  go_enter Tryd.func36, Tryd.ntmps36
  go_wp2_with fail
  refine (floor_pos (y - 1) 4 _ HF.out (by omega)).mono ?_
  rintro e w' ⟨rfl, rfl⟩
  go_wp2_with fail
  refine (floor_pos (y - 1) 100 _ HF.out (by omega)).mono ?_
  rintro e w' ⟨rfl, rfl⟩
  go_wp2_with fail
  refine (floor_pos (y - 1) 400 _ HF.out (by omega)).mono ?_
  rintro e w' ⟨rfl, rfl⟩
  go_wp2_with fail
  go_ret
  exact ⟨by first | (rw [E.out]; done) | (rw [E.out]; rfl), rfl⟩
theorem days_ok (y m d : Int) (w : World) (hA : Ahead w) (h : Valid y m d) :
    Calls Tryd.prog 16 #[.agg #[.int .i64 y, .int .i64 m, .int .i64 d]] w fun e w' => e = .returned (.tuple #[.int .i64 (num y m d), .int .i64 0]) ∧ Below w.heap.size w w' := by
  have HAw := Lib.hid hA
  have HBw := Lib.hid (Below.refl w.heap.size w)
  have HV := Lib.hid h
  have E := Lib.hid (show num y m d = dy y + cum y m + d - 1 from rfl)
  have b1 := dim_bd y m
  have b2 := cum_bd y m h.m1 h.m2
  have b3 := lp_01 y
  have b4 := dy_bd y (by have := h.y1; omega) (by have := h.y2; omega)
  obtain ⟨b11, b12⟩ := b1
  obtain ⟨b21, b22, b23⟩ := b2
  obtain ⟨b31, b32⟩ := b3
  obtain ⟨b41, b42⟩ := b4
  obtain ⟨y1, y2, m1, m2, d1, d2⟩ := h
  clear hA
  go_enter Tryd.func16, Tryd.ntmps16
  have HB0 := Lib.hid ((Below.refl w.heap.size w).alloc (Nat.le_refl _) (.cells #[.int .i64 y, .int .i64 m, .int .i64 d] 31))
  have HA0 := Lib.hid (HAw.out.below HB0.out)
  have HD0 := Lib.hid (Dt.new w y m d)
  go_wp2_with fail
  refine (check_ok y m d _ HA0.out HV.out).mono ?_
  rintro e w1 ⟨rfl, hb⟩
  have HBw1 := Lib.hid (HB0.out.trans (hb.mono HB0.out.size))
  have HAw1 := Lib.hid (HA0.out.below hb)
  have HDw1 := Lib.hid (HD0.out.below hb HD0.out.lt)
  obtain ⟨c0, c1, c2⟩ := HDw1.out.cells
  clear hb
  go_wp2_with fail
  have W1 : IntKind.i64.wrap (dy y + cum y m) = dy y + cum y m := IntWalk.i64_in _ (by omega)
  have W2 : IntKind.i64.wrap (dy y + cum y m + d) = dy y + cum y m + d := IntWalk.i64_in _ (by omega)
  have W3 : IntKind.i64.wrap (dy y + cum y m + d - 1) = dy y + cum y m + d - 1 := IntWalk.i64_in _ (by omega)
  go_quiet (first
    | (go_at_call 36; exact q_same (year_any y _ (by omega) (by omega)))
    | (go_at_call 37; exact q_same (start_any y m _ (HAw1.out.drewN _) m1 m2)))
  go_wp2_with fail
  go_ret2
  exact ⟨by first | (rw [E.out]; done) | (rw [E.out]; rfl), below_drewN HBw1.out _⟩
theorem days_no (y m d : Int) (w : World) (hA : Ahead w) (h : ¬ Valid y m d) :
    Calls Tryd.prog 16 #[.agg #[.int .i64 y, .int .i64 m, .int .i64 d]] w fun e w' => e = .returned (.tuple #[.int .i64 0, .int .i64 10]) ∧ Below w.heap.size w w' := by
  have HAw := Lib.hid hA
  have HBw := Lib.hid (Below.refl w.heap.size w)
  have HV := Lib.hid h
  clear hA h
  go_enter Tryd.func16, Tryd.ntmps16
  have HB0 := Lib.hid ((Below.refl w.heap.size w).alloc (Nat.le_refl _) (.cells #[.int .i64 y, .int .i64 m, .int .i64 d] 31))
  have HA0 := Lib.hid (HAw.out.below HB0.out)
  have HD0 := Lib.hid (Dt.new w y m d)
  go_wp2_with fail
  refine (check_no y m d _ HA0.out HV.out).mono ?_
  rintro e w1 ⟨rfl, hb⟩
  have HBw1 := Lib.hid (HB0.out.trans (hb.mono HB0.out.size))
  have HAw1 := Lib.hid (HA0.out.below hb)
  have HDw1 := Lib.hid (HD0.out.below hb HD0.out.lt)
  obtain ⟨c0, c1, c2⟩ := HDw1.out.cells
  clear hb
  go_wp2_with fail
  go_ret2
  exact ⟨rfl, HBw1.out⟩
theorem weekday_any (n : Int) (w : World) (h : Fits n) :
    Calls Tryd.prog 18 #[.int .i64 n] w fun e w' => e = .returned (.int .i64 ((n + 4) % 7)) ∧ w = w' := by
  have HF := Lib.hid h
  have b1 : 0 ≤ n % 7 := by omega
  have b2 : n % 7 < 7 := by omega
  clear h
  go_enter Tryd.func18, Tryd.ntmps18
  go_wp2_with fail
  refine (mod_pos n 7 _ HF.out ⟨by omega, by omega⟩ (by omega)).mono ?_
  rintro e w' ⟨rfl, rfl⟩
  go_wp2_with fail
  go_ret
  exact ⟨ret_int (by omega), rfl⟩
end Go.Proofs.YtmkbfjklhejdnaaDoor
