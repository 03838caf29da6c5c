/-
  THE WALKS of the words that months and days of a week have.
-/
import Derived.Test.YtcfcfoiphadmkaaDoorAwake
namespace Go.Proofs.YtcfcfoiphadmkaaDoor
open Go Go.RowKit

theorem ba_take (l : List UInt8) (p : Nat) : (⟨l.toArray⟩ : ByteArray).extract 0 p = ⟨(l.take p).toArray⟩ := by
  rw [ByteArray.extract_mk]
  rfl
theorem name_ok (b off cap : Nat) (ws : List (List UInt8)) (i : Nat) (w : World) (hc : WL w b off ws) (hi : i < ws.length) (h3 : 3 ≤ (ws.getD i []).length) :
    Calls Tryd.prog 28 #[.slice (some ⟨b, off, none⟩) ws.length cap, .int .i64 i] w fun e w' => e = .returned (.tuple #[.string ⟨((ws.getD i []).take 3).toArray⟩, .int .i64 0]) ∧ Below w.heap.size w w' := by
  have c0 := hc i hi
  have hi2 : (i : Int) < (ws.length : Int) := by omega
  have hi0 : 0 ≤ (i : Int) := by omega
  generalize ws.getD i [] = x at *
  have X := Lib.hid (ba_take x 3)
  go_enter Tryd.func28, Tryd.ntmps28
  go_wp2_with fail
  go_ret2
  exact ⟨by rw [← X.out]; rfl, Below.refl _ _⟩
theorem name_no (b off n cap : Nat) (i : Int) (w : World) (hi : ¬ (0 ≤ i ∧ i < n)) :
    Calls Tryd.prog 28 #[.slice (some ⟨b, off, none⟩) n cap, .int .i64 i] w fun e w' => e = .returned (.tuple #[.string ⟨#[]⟩, .int .i64 10]) ∧ Below w.heap.size w w' := by
  by_cases h : i < 0
  · clear hi
    go_enter Tryd.func28, Tryd.ntmps28
    go_wp2_with fail
    go_ret2
    exact ⟨rfl, Below.refl _ _⟩
  · have h2 : (n : Int) ≤ i := by omega
    clear hi
    go_enter Tryd.func28, Tryd.ntmps28
    go_wp2_with fail
    go_ret2
    exact ⟨rfl, Below.refl _ _⟩
theorem months3 : ∀ i, i < 12 → 3 ≤ (monthsL.getD i []).length := by decide
theorem weekdays3 : ∀ i, i < 7 → 3 ≤ (weekdaysL.getD i []).length := by decide
/-- the month n (1 to 12) -/
theorem monthname_ok (i : Nat) (w : World) (hM : Mon w) (hi : i < 12) :
    Calls Tryd.prog 20 #[.int .i64 ((i : Int) + 1)] w fun e w' => e = .returned (.tuple #[.string ⟨((monthsL.getD i []).take 3).toArray⟩, .int .i64 0]) ∧ Below w.heap.size w w' := by
  have HM := Lib.hid hM
  have hi2 : (i : Int) < 12 := by omega
  have hi0 : 0 ≤ (i : Int) := by omega
  have HB0 := Lib.hid (Below.refl w.heap.size w)
  clear hM
  have m1 : max ((i : Int) + 1) 0 - 1 = i := by omega
  have m2 : max 0 ((i : Int) + 1) - 1 = i := by omega
  have m3 : max ((i : Int) + 1) 0 = i + 1 := by omega
  go_enter Tryd.func20, Tryd.ntmps20
  go_wp2_with fail
  refine (name_ok 0 0 12 monthsL i _ HM.out hi (months3 i hi)).mono ?_
  rintro e w1 ⟨rfl, hb⟩
  have HBw1 := Lib.hid (HB0.out.trans (hb.mono HB0.out.size))
  clear hb
  go_wp2_with fail
  go_ret2
  exact ⟨rfl, HBw1.out⟩
theorem monthname_no (n : Int) (w : World) (hf : -9223372036854775808 ≤ n ∧ n ≤ 9223372036854775807) (hn : ¬ (1 ≤ n ∧ n ≤ 12)) :
    Calls Tryd.prog 20 #[.int .i64 n] w fun e w' => e = .returned (.tuple #[.string ⟨#[]⟩, .int .i64 10]) ∧ Below w.heap.size w w' := by
  obtain ⟨f1, f2⟩ := hf
  have HB0 := Lib.hid (Below.refl w.heap.size w)
  have HN := Lib.hid (show ¬ (0 ≤ max n 0 - 1 ∧ max n 0 - 1 < ((12 : Nat) : Int)) by omega)
  clear hn
  go_enter Tryd.func20, Tryd.ntmps20
  go_wp2_with fail
  refine (name_no 0 0 12 12 (max n 0 - 1) _ HN.out).mono ?_
  rintro e w1 ⟨rfl, hb⟩
  have HBw1 := Lib.hid (HB0.out.trans (hb.mono HB0.out.size))
  clear hb
  go_wp2_with fail
  go_ret2
  exact ⟨rfl, HBw1.out⟩
theorem weekdayname_ok (i : Nat) (w : World) (hM : Wek w) (hi : i < 7) :
    Calls Tryd.prog 21 #[.int .i64 i] w fun e w' => e = .returned (.tuple #[.string ⟨((weekdaysL.getD i []).take 3).toArray⟩, .int .i64 0]) ∧ Below w.heap.size w w' := by
  have HM := Lib.hid hM
  have HB0 := Lib.hid (Below.refl w.heap.size w)
  clear hM
  go_enter Tryd.func21, Tryd.ntmps21
  go_wp2_with fail
  refine (name_ok 1 0 7 weekdaysL i _ HM.out hi (weekdays3 i hi)).mono ?_
  rintro e w1 ⟨rfl, hb⟩
  have HBw1 := Lib.hid (HB0.out.trans (hb.mono HB0.out.size))
  clear hb
  go_wp2_with fail
  go_ret2
  exact ⟨rfl, HBw1.out⟩
theorem weekdayname_no (n : Int) (w : World) (hn : ¬ (0 ≤ n ∧ n ≤ 6)) :
    Calls Tryd.prog 21 #[.int .i64 n] w fun e w' => e = .returned (.tuple #[.string ⟨#[]⟩, .int .i64 10]) ∧ Below w.heap.size w w' := by
  have HB0 := Lib.hid (Below.refl w.heap.size w)
  have HN := Lib.hid (show ¬ (0 ≤ n ∧ n < ((7 : Nat) : Int)) by omega)
  clear hn
  go_enter Tryd.func21, Tryd.ntmps21
  go_wp2_with fail
  refine (name_no 1 0 7 7 n _ HN.out).mono ?_
  rintro e w1 ⟨rfl, hb⟩
  have HBw1 := Lib.hid (HB0.out.trans (hb.mono HB0.out.size))
  clear hb
  go_wp2_with fail
  go_ret2
  exact ⟨rfl, HBw1.out⟩
theorem months_back : ∀ i, i < 12 → fd (((monthsL.getD i []).take 3).map low) monthsL = some i := by decide +kernel
theorem weekdays_back : ∀ i, i < 7 → fd (((weekdaysL.getD i []).take 3).map low) weekdaysL = some i := by decide +kernel
theorem months_len : ∀ i, i < 12 → ((monthsL.getD i []).take 3).length = 3 := by decide
theorem weekdays_len : ∀ i, i < 7 → ((weekdaysL.getD i []).take 3).length = 3 := by decide
namespace wordsBack
theorem y0 : fd (([111, 110, 108, 121] : List UInt8).map low) onlysL = some 0 := by decide +kernel
theorem y1 : fd (([111] : List UInt8).map low) onlysL = some 0 := by decide +kernel
theorem y2 : fd (([109] : List UInt8).map low) onlysL = some 1 := by decide +kernel
set_option maxHeartbeats 1000000 in
theorem walk_both (i j : Nat) (from0 : Int) (w : World) (hM : Mon w) (hW : Wek w) (hi : i < 12) (hj : j < 7) (hij : (j : Int) = i + 1) : Calls Tryd.prog 8 #[.int .i64 ((i : Int) + 1), .int .i64 from0] w (One w) := by
  have HM := Lib.hid hM
  have HW := Lib.hid hW
  have HBw := Lib.hid (Below.refl w.heap.size w)
  clear hM hW
  have E1 := Lib.hid (show upV 1 (((monthsL.getD i []).take 3).map low) monthsL = .tuple #[.int .i64 ((i : Int) + 1), .int .i64 0] from upV_some (months_back i hi))
  have L1 := Lib.hid (show ((monthsL.getD i []).take 3).length ≤ 1000 by rw [months_len i hi]; decide)
  have l1 := months_len i hi
  have M1 := Lib.hid (fun w hM => monthname_ok i w hM hi)
  generalize (monthsL.getD i []).take 3 = S at *
  have E2 := Lib.hid (fdV_some (weekdays_back j hj))
  have L2 := Lib.hid (show ((weekdaysL.getD j []).take 3).length ≤ 1000 by rw [weekdays_len j hj]; decide)
  have l2 := weekdays_len j hj
  have W1 := Lib.hid (fun w hW => weekdayname_ok j w hW hj)
  generalize (weekdaysL.getD j []).take 3 = T at *
  rw [hij] at W1 E2
  clear hij hi hj
  go_enter Tryd.func8, Tryd.ntmps8
  go_wp2_with fail
  refine (M1.out _ HM.out).mono ?_
  rintro e w1 ⟨rfl, hb⟩
  have HBw1 := Lib.hid (HBw.out.trans (hb.mono HBw.out.size))
  clear hb
  go_wp2_with fail
  refine (W1.out _ (HW.out.below HBw1.out)).mono ?_
  rintro e w2 ⟨rfl, hb⟩
  have HBw2 := Lib.hid (HBw1.out.trans (hb.mono HBw1.out.size))
  clear hb
  go_wp2_with fail
  refine (month_any S _ (HM.out.below HBw2.out) L1.out).mono ?_
  rintro e w3 ⟨rfl, hb⟩
  have HBw3 := Lib.hid (HBw2.out.trans (hb.mono HBw2.out.size))
  clear hb
  rw [E1.out]
  go_wp2_with fail
  refine (weekday_any T _ (HW.out.below HBw3.out) L2.out).mono ?_
  rintro e w4 ⟨rfl, hb⟩
  have HBw4 := Lib.hid (HBw3.out.trans (hb.mono HBw3.out.size))
  clear hb
  rw [E2.out]
  go_wp2_with fail
  refine (year_0 [111, 110, 108, 121] from0 _ (by decide) y0).mono ?_
  rintro e w5 ⟨rfl, hb⟩
  have HBw5 := Lib.hid (HBw4.out.trans (hb.mono HBw4.out.size))
  clear hb
  go_wp2_with fail
  refine (year_0 [111] from0 _ (by decide) y1).mono ?_
  rintro e w6 ⟨rfl, hb⟩
  have HBw6 := Lib.hid (HBw5.out.trans (hb.mono HBw5.out.size))
  clear hb
  go_wp2_with fail
  refine (year_1 [109] from0 _ (by decide) y2).mono ?_
  rintro e w7 ⟨rfl, hb⟩
  have HBw7 := Lib.hid (HBw6.out.trans (hb.mono HBw6.out.size))
  clear hb
  go_wp2_with fail
  refine (awake_any _ (HM.out.below HBw7.out)).mono ?_
  rintro e w8 ⟨rfl, hb⟩
  have HBw8 := Lib.hid (HBw7.out.trans (hb.mono HBw7.out.size))
  clear hb
  go_wp2_with fail
  go_ret
  exact ⟨rfl, HBw8.out⟩
set_option maxHeartbeats 1000000 in
theorem walk_month (i : Nat) (from0 : Int) (w : World) (hM : Mon w) (hW : Wek w) (hi : i < 12) (hj : 6 < (i : Int) + 1) : Calls Tryd.prog 8 #[.int .i64 ((i : Int) + 1), .int .i64 from0] w (One w) := by
  have HM := Lib.hid hM
  have HW := Lib.hid hW
  have HBw := Lib.hid (Below.refl w.heap.size w)
  have HJ := Lib.hid (show ¬ (0 ≤ (i : Int) + 1 ∧ (i : Int) + 1 ≤ 6) by omega)
  clear hM hW hj
  have E1 := Lib.hid (show upV 1 (((monthsL.getD i []).take 3).map low) monthsL = .tuple #[.int .i64 ((i : Int) + 1), .int .i64 0] from upV_some (months_back i hi))
  have L1 := Lib.hid (show ((monthsL.getD i []).take 3).length ≤ 1000 by rw [months_len i hi]; decide)
  have l1 := months_len i hi
  have M1 := Lib.hid (fun w hM => monthname_ok i w hM hi)
  generalize (monthsL.getD i []).take 3 = S at *
  clear hi
  go_enter Tryd.func8, Tryd.ntmps8
  go_wp2_with fail
  refine (M1.out _ HM.out).mono ?_
  rintro e w1 ⟨rfl, hb⟩
  have HBw1 := Lib.hid (HBw.out.trans (hb.mono HBw.out.size))
  clear hb
  go_wp2_with fail
  refine (weekdayname_no _ _ HJ.out).mono ?_
  rintro e w2 ⟨rfl, hb⟩
  have HBw2 := Lib.hid (HBw1.out.trans (hb.mono HBw1.out.size))
  clear hb
  go_wp2_with fail
  refine (month_any S _ (HM.out.below HBw2.out) L1.out).mono ?_
  rintro e w3 ⟨rfl, hb⟩
  have HBw3 := Lib.hid (HBw2.out.trans (hb.mono HBw2.out.size))
  clear hb
  rw [E1.out]
  go_wp2_with fail
  refine (year_0 [111, 110, 108, 121] from0 _ (by decide) y0).mono ?_
  rintro e w5 ⟨rfl, hb⟩
  have HBw5 := Lib.hid (HBw3.out.trans (hb.mono HBw3.out.size))
  clear hb
  go_wp2_with fail
  refine (year_0 [111] from0 _ (by decide) y1).mono ?_
  rintro e w6 ⟨rfl, hb⟩
  have HBw6 := Lib.hid (HBw5.out.trans (hb.mono HBw5.out.size))
  clear hb
  go_wp2_with fail
  refine (year_1 [109] from0 _ (by decide) y2).mono ?_
  rintro e w7 ⟨rfl, hb⟩
  have HBw7 := Lib.hid (HBw6.out.trans (hb.mono HBw6.out.size))
  clear hb
  go_wp2_with fail
  refine (awake_any _ (HM.out.below HBw7.out)).mono ?_
  rintro e w8 ⟨rfl, hb⟩
  have HBw8 := Lib.hid (HBw7.out.trans (hb.mono HBw7.out.size))
  clear hb
  go_wp2_with fail
  go_ret
  exact ⟨rfl, HBw8.out⟩
set_option maxHeartbeats 1000000 in
theorem walk_zero (from0 : Int) (w : World) (hM : Mon w) (hW : Wek w) : Calls Tryd.prog 8 #[.int .i64 0, .int .i64 from0] w (One w) := by
  have HM := Lib.hid hM
  have HW := Lib.hid hW
  have HBw := Lib.hid (Below.refl w.heap.size w)
  have hj : 0 < 7 := by decide
  obtain ⟨j, hj0⟩ : ∃ j : Nat, j = 0 := ⟨0, rfl⟩
  rw [← hj0] at hj
  clear hM hW
  have E2 := Lib.hid (fdV_some (weekdays_back j hj))
  have L2 := Lib.hid (show ((weekdaysL.getD j []).take 3).length ≤ 1000 by rw [weekdays_len j hj]; decide)
  have l2 := weekdays_len j hj
  have W1 := Lib.hid (fun w hW => weekdayname_ok j w hW hj)
  generalize (weekdaysL.getD j []).take 3 = T at *
  rw [show (j : Int) = 0 by omega] at W1 E2
  clear hj hj0
  go_enter Tryd.func8, Tryd.ntmps8
  go_wp2_with fail
  refine (monthname_no 0 _ (by decide) (by decide)).mono ?_
  rintro e w1 ⟨rfl, hb⟩
  have HBw1 := Lib.hid (HBw.out.trans (hb.mono HBw.out.size))
  clear hb
  go_wp2_with fail
  refine (W1.out _ (HW.out.below HBw1.out)).mono ?_
  rintro e w2 ⟨rfl, hb⟩
  have HBw2 := Lib.hid (HBw1.out.trans (hb.mono HBw1.out.size))
  clear hb
  go_wp2_with fail
  refine (weekday_any T _ (HW.out.below HBw2.out) L2.out).mono ?_
  rintro e w4 ⟨rfl, hb⟩
  have HBw4 := Lib.hid (HBw2.out.trans (hb.mono HBw2.out.size))
  clear hb
  rw [E2.out]
  go_wp2_with fail
  refine (year_0 [111, 110, 108, 121] from0 _ (by decide) y0).mono ?_
  rintro e w5 ⟨rfl, hb⟩
  have HBw5 := Lib.hid (HBw4.out.trans (hb.mono HBw4.out.size))
  clear hb
  go_wp2_with fail
  refine (year_0 [111] from0 _ (by decide) y1).mono ?_
  rintro e w6 ⟨rfl, hb⟩
  have HBw6 := Lib.hid (HBw5.out.trans (hb.mono HBw5.out.size))
  clear hb
  go_wp2_with fail
  refine (year_1 [109] from0 _ (by decide) y2).mono ?_
  rintro e w7 ⟨rfl, hb⟩
  have HBw7 := Lib.hid (HBw6.out.trans (hb.mono HBw6.out.size))
  clear hb
  go_wp2_with fail
  refine (awake_any _ (HM.out.below HBw7.out)).mono ?_
  rintro e w8 ⟨rfl, hb⟩
  have HBw8 := Lib.hid (HBw7.out.trans (hb.mono HBw7.out.size))
  clear hb
  go_wp2_with fail
  go_ret
  exact ⟨rfl, HBw8.out⟩
set_option maxHeartbeats 1000000 in
theorem walk_none (n from0 : Int) (w : World) (hM : Mon w) (hf : -9223372036854775808 ≤ n ∧ n ≤ 9223372036854775807) (h : ¬ (0 ≤ n ∧ n ≤ 12)) : Calls Tryd.prog 8 #[.int .i64 n, .int .i64 from0] w (One w) := by
  have HM := Lib.hid hM
  have HF := Lib.hid hf
  have HBw := Lib.hid (Below.refl w.heap.size w)
  have HJ := Lib.hid (show ¬ (0 ≤ n ∧ n ≤ 6) by omega)
  have HI := Lib.hid (show ¬ (1 ≤ n ∧ n ≤ 12) by omega)
  clear hM hf h
  go_enter Tryd.func8, Tryd.ntmps8
  go_wp2_with fail
  refine (monthname_no n _ HF.out HI.out).mono ?_
  rintro e w1 ⟨rfl, hb⟩
  have HBw1 := Lib.hid (HBw.out.trans (hb.mono HBw.out.size))
  clear hb
  go_wp2_with fail
  refine (weekdayname_no n _ HJ.out).mono ?_
  rintro e w2 ⟨rfl, hb⟩
  have HBw2 := Lib.hid (HBw1.out.trans (hb.mono HBw1.out.size))
  clear hb
  go_wp2_with fail
  refine (year_0 [111, 110, 108, 121] from0 _ (by decide) y0).mono ?_
  rintro e w5 ⟨rfl, hb⟩
  have HBw5 := Lib.hid (HBw2.out.trans (hb.mono HBw2.out.size))
  clear hb
  go_wp2_with fail
  refine (year_0 [111] from0 _ (by decide) y1).mono ?_
  rintro e w6 ⟨rfl, hb⟩
  have HBw6 := Lib.hid (HBw5.out.trans (hb.mono HBw5.out.size))
  clear hb
  go_wp2_with fail
  refine (year_1 [109] from0 _ (by decide) y2).mono ?_
  rintro e w7 ⟨rfl, hb⟩
  have HBw7 := Lib.hid (HBw6.out.trans (hb.mono HBw6.out.size))
  clear hb
  go_wp2_with fail
  refine (awake_any _ (HM.out.below HBw7.out)).mono ?_
  rintro e w8 ⟨rfl, hb⟩
  have HBw8 := Lib.hid (HBw7.out.trans (hb.mono HBw7.out.size))
  clear hb
  go_wp2_with fail
  go_ret
  exact ⟨rfl, HBw8.out⟩
end wordsBack
end Go.Proofs.YtcfcfoiphadmkaaDoor
