/-
  THE WALK of civil.Print where there is no date; the chapter's examples.
-/
import Derived.Test.YtokcbnmpdbbehaaDoorPrint
import Derived.Test.YtokcbnmpdbbehaaDoorCivOf
namespace Go.Proofs.YtokcbnmpdbbehaaDoor
open Go Go.RowKit CivM NumM

theorem print_no (y m d : Int) (w : World) (hA : Ahead w) (h : ¬ Valid y m d) :
    Calls Tryd.prog 20 #[.agg #[.int .i64 y, .int .i64 m, .int .i64 d]] w fun e w' => e = .returned (.tuple #[.string ⟨#[]⟩, .int .i64 10]) ∧ Below w.heap.size w w' := by
  have HAw := Lib.hid hA
  have HV := Lib.hid h
  clear hA h
  by_cases hy : y = 0
  · by_cases hm : m = 0
    · by_cases hd : d = 0
      · subst hy hm hd
        go_enter Tryd.func20, Tryd.ntmps20
        have HB0 := Lib.hid ((Below.refl w.heap.size w).alloc (Nat.le_refl _) (.cells #[.int .i64 0, .int .i64 0, .int .i64 0] 23))
        go_wp2_with fail
        go_ret2
        exact ⟨rfl, HB0.out⟩
      · have fd : (d == 0) = false := by simpa using hd
        clear hd
        subst hy hm
        go_enter Tryd.func20, Tryd.ntmps20
        have HB0 := Lib.hid ((Below.refl w.heap.size w).alloc (Nat.le_refl _) (.cells #[.int .i64 0, .int .i64 0, .int .i64 d] 23))
        have HA0 := Lib.hid (HAw.out.below HB0.out)
        have HD0 := Lib.hid (Dt.new w 0 0 d)
        go_wp2_with fail
        refine (check_no 0 0 d _ HA0.out HV.out).mono ?_
        rintro e w1 ⟨rfl, hb⟩
        have HBw1 := Lib.hid (HB0.out.trans (hb.mono HB0.out.size))
        have HAw1 := Lib.hid (HA0.out.below hb)
        have HDw1 := Lib.hid (HD0.out.below hb HD0.out.lt)
        obtain ⟨c0, c1, c2⟩ := HDw1.out.cells
        clear hb
        go_wp2_with fail
        go_ret2
        exact ⟨rfl, HBw1.out⟩
    · have fm : (m == 0) = false := by simpa using hm
      clear hm
      subst hy
      go_enter Tryd.func20, Tryd.ntmps20
      have HB0 := Lib.hid ((Below.refl w.heap.size w).alloc (Nat.le_refl _) (.cells #[.int .i64 0, .int .i64 m, .int .i64 d] 23))
      have HA0 := Lib.hid (HAw.out.below HB0.out)
      have HD0 := Lib.hid (Dt.new w 0 m d)
      go_wp2_with fail
      refine (check_no 0 m d _ HA0.out HV.out).mono ?_
      rintro e w1 ⟨rfl, hb⟩
      have HBw1 := Lib.hid (HB0.out.trans (hb.mono HB0.out.size))
      have HAw1 := Lib.hid (HA0.out.below hb)
      have HDw1 := Lib.hid (HD0.out.below hb HD0.out.lt)
      obtain ⟨c0, c1, c2⟩ := HDw1.out.cells
      clear hb
      go_wp2_with fail
      go_ret2
      exact ⟨rfl, HBw1.out⟩
  · have fy : (y == 0) = false := by simpa using hy
    clear hy
    go_enter Tryd.func20, Tryd.ntmps20
    have HB0 := Lib.hid ((Below.refl w.heap.size w).alloc (Nat.le_refl _) (.cells #[.int .i64 y, .int .i64 m, .int .i64 d] 23))
    have HA0 := Lib.hid (HAw.out.below HB0.out)
    have HD0 := Lib.hid (Dt.new w y m d)
    go_wp2_with fail
    refine (check_no y m d _ HA0.out HV.out).mono ?_
    rintro e w1 ⟨rfl, hb⟩
    have HBw1 := Lib.hid (HB0.out.trans (hb.mono HB0.out.size))
    have HAw1 := Lib.hid (HA0.out.below hb)
    have HDw1 := Lib.hid (HD0.out.below hb HD0.out.lt)
    obtain ⟨c0, c1, c2⟩ := HDw1.out.cells
    clear hb
    go_wp2_with fail
    go_ret2
    exact ⟨rfl, HBw1.out⟩
/-- a law's end: true, and what was there is as it was -/
def One (w : World) (e : Ending) (w' : World) : Prop := e = .returned (.bool true) ∧ Below w.heap.size w w'
theorem awake_text : dtext (-5) 3 9 = [45, 48, 48, 48, 53, 45, 48, 51, 45, 48, 57] := by
  have i5 : Lib.itoa 5 = [53] := by unfold Lib.itoa; rw [if_neg (by omega)]; exact Lib.decDigits_one (by decide)
  have i3 : Lib.itoa 3 = [51] := by unfold Lib.itoa; rw [if_neg (by omega)]; exact Lib.decDigits_one (by decide)
  have i9 : Lib.itoa 9 = [57] := by unfold Lib.itoa; rw [if_neg (by omega)]; exact Lib.decDigits_one (by decide)
  unfold dtext pad
  rw [show max (-5 : Int) (-(-5)) = 5 from by decide, i5, i3, i9]
  rfl
theorem awake_any (w : World) (hA : Ahead w) (hP : Pow w) :
    Calls Tryd.prog 14 #[] w fun e w' => e = .returned (.bool true) ∧ Below w.heap.size w w' := by
  have HAw := Lib.hid hA
  have HPw := Lib.hid hP
  have HBw := Lib.hid (Below.refl w.heap.size w)
  have V1 := Lib.hid (show Valid 2000 3 1 from ⟨by decide, by decide, by decide, by decide, by decide, by decide⟩)
  have V2 := Lib.hid (show Valid 1969 12 31 from ⟨by decide, by decide, by decide, by decide, by decide, by decide⟩)
  have V3 := Lib.hid (show Valid (-5) 3 9 from ⟨by decide, by decide, by decide, by decide, by decide, by decide⟩)
  have N1 := Lib.hid (show num 2000 3 1 = 11017 from by decide)
  have N2 := Lib.hid (show num 1969 12 31 = -1 from by decide)
  have N3 := Lib.hid awake_text
  clear hA hP
  go_enter Tryd.func14, Tryd.ntmps14
  go_wp2_with fail
  refine (days_ok 2000 3 1 _ HAw.out V1.out).mono ?_
  rintro e w1 ⟨rfl, hb⟩
  have HBw1 := Lib.hid (HBw.out.trans (hb.mono HBw.out.size))
  have HAw1 := Lib.hid (HAw.out.below hb)
  clear hb
  rw [N1.out]
  go_wp2_with fail
  have O2 := of_ok 1969 12 31 w1 HAw1.out V2.out
  rw [N2.out] at O2
  refine (O2).mono ?_
  rintro e w2 ⟨rfl, hb⟩
  have HBw2 := Lib.hid (HBw1.out.trans (hb.mono HBw1.out.size))
  have HAw2 := Lib.hid (HAw1.out.below hb)
  clear hb
  clear O2
  go_wp2_with fail
  have HBa := Lib.hid (HBw2.out.alloc HBw2.out.size (.cells #[.int .i64 1969, .int .i64 12, .int .i64 31] 23))
  have HAa := Lib.hid (HAw2.out.below ((Below.refl _ _).alloc (Nat.le_refl _) (.cells #[.int .i64 1969, .int .i64 12, .int .i64 31] 23)))
  have HDa := Lib.hid (Dt.new w2 1969 12 31)
  refine (print_ok (-5) 3 9 _ HAa.out (HPw.out.below HBa.out) V3.out).mono ?_
  rintro e w3 ⟨rfl, hb⟩
  have HBw3 := Lib.hid (HBa.out.trans (hb.mono HBa.out.size))
  have HAw3 := Lib.hid (HAa.out.below hb)
  have HDw3 := Lib.hid (HDa.out.below hb HDa.out.lt)
  obtain ⟨c0, c1, c2⟩ := HDw3.out.cells
  clear hb
  rw [N3.out]
  go_wp2_with fail
  refine (weekday_any 0 _ ⟨by decide, by decide⟩).mono ?_
  rintro e w' ⟨rfl, rfl⟩
  go_wp2_with fail
  go_ret
  exact ⟨rfl, HBw3.out⟩
end Go.Proofs.YtokcbnmpdbbehaaDoor
