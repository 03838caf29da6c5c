/-
  THE WALK of the law WordsNames.
-/
import Derived.Test.YtcfcfoiphadmkaaDoorRWords
namespace Go.Proofs.YtcfcfoiphadmkaaDoor
open Go Go.RowKit

theorem cv_three (n : Int) (x y z : UInt8) (w : World) (h : n = x.toNat) :
    (convert 31 9 (.slice (some ⟨w.heap.size, 0, none⟩) 3 3)).run Tryd.prog (w.alloc (.cells #[.int .u8 n, .int .u8 y.toNat, .int .u8 z.toNat] 5)).drew = .ok (.string ⟨[x, y, z].toArray⟩) (w.alloc (.cells #[.int .u8 n, .int .u8 y.toNat, .int .u8 z.toNat] 5)).drew :=
  run_convert_bytes_back (w.alloc (.cells #[.int .u8 n, .int .u8 y.toNat, .int .u8 z.toNat] 5)).drew 31 9 5 ⟨w.heap.size, 0, none⟩ 3 [x, y, z] Tryd.underlying31 Tryd.underlying5 Tryd.underlying9 (fun j hj => by
    subst h
    have : j = 0 ∨ j = 1 ∨ j = 2 := by simp at hj; omega
    rcases this with rfl | rfl | rfl
    · exact World.cell?_alloc_mark w _ _ _ 0
    · exact World.cell?_alloc_mark w _ _ _ 1
    · exact World.cell?_alloc_mark w _ _ _ 2)
def nameOf (l : List UInt8) : List UInt8 := [l.getD 0 0 - 32, l.getD 1 0, l.getD 2 0]
def okName (l : List UInt8) : Prop := 3 ≤ l.length ∧ 97 ≤ (l.getD 0 0).toNat ∧ (l.getD 0 0).toNat ≤ 122
theorem byte_at (l : List UInt8) (k : Nat) (h : k < l.length) : (⟨l.toArray⟩ : ByteArray)[k]'(by show k < l.toArray.size; simpa using h) = l.getD k 0 := by
  simp [List.getD, h, ByteArray.getElem_eq_getElem_data]
theorem name_any (l : List UInt8) (w : World) (h : okName l) : Calls Tryd.prog 22 #[.string ⟨l.toArray⟩] w fun e w' => e = .returned (.string ⟨(nameOf l).toArray⟩) ∧ Below w.heap.size w w' := by
  obtain ⟨hl, ha, hb⟩ := h
  have h0 := byte_at l 0 (by omega)
  have h1 := byte_at l 1 (by omega)
  have h2 := byte_at l 2 (by omega)
  unfold nameOf
  generalize l.getD 0 0 = a at *
  generalize l.getD 1 0 = b at *
  generalize l.getD 2 0 = c at *
  have ha2 : (97 : Int) ≤ a.toNat := by omega
  have hb2 : (a.toNat : Int) ≤ 122 := by omega
  clear ha hb
  have hl2 : 3 ≤ (l.length : Int) := by omega
  have b1 : (b.toNat : Int) ≤ 255 := by have := b.toNat_lt; omega
  have b0 : 0 ≤ (b.toNat : Int) := by omega
  have c1 : (c.toNat : Int) ≤ 255 := by have := c.toNat_lt; omega
  have c0 : 0 ≤ (c.toNat : Int) := by omega
  have RC := cv_three ((a.toNat : Int) - 97 + 65) (a - 32) b c w (by
    have : (32 : UInt8) ≤ a := by rw [UInt8.le_iff_toNat_le]; show 32 ≤ a.toNat; omega
    rw [UInt8.toNat_sub_of_le _ _ this]
    show (a.toNat : Int) - 97 + 65 = ((a.toNat - 32 : Nat) : Int)
    omega)
  go_enter Tryd.func22, Tryd.ntmps22
  go_wp2_with fail
  go_region
  go_wp2_with fail
  go_ret
  exact ⟨rfl, ((Below.refl _ _).alloc (Nat.le_refl _) _).drew⟩
theorem month_name : ∀ i, i < 12 → nameOf (monthsS.getD i []) = (monthsL.getD i []).take 3 := by decide
theorem weekday_name : ∀ i, i < 7 → nameOf (weekdaysS.getD i []) = (weekdaysL.getD i []).take 3 := by decide
theorem month_okn : ∀ i, i < 12 → okName (monthsS.getD i []) := by unfold okName; decide
theorem weekday_okn : ∀ i, i < 7 → okName (weekdaysS.getD i []) := by unfold okName; decide
namespace wordsNames
set_option maxHeartbeats 1000000 in
theorem walk_both (i j : Nat) (w : World) (hM : Mon w) (hW : Wek w) (hi : i < 12) (hj : j < 7) (hij : (i : Int) + 1 = j) : Calls Tryd.prog 7 #[.int .i64 ((i : Int) + 1)] w (One w) := by
  have HM := Lib.hid hM
  have HW := Lib.hid hW
  have HBw := Lib.hid (Below.refl w.heap.size w)
  clear hM hW
  have M1 := Lib.hid (fun w hM => monthname_ok i w hM hi)
  have M2 := Lib.hid (fun w => name_any (monthsS.getD i []) w (month_okn i hi))
  have C1 := Lib.hid (fun w => monthsS_wl w i hi)
  rw [month_name i hi] at M2
  generalize (monthsL.getD i []).take 3 = S at *
  generalize monthsS.getD i [] = SS at *
  simp only [Nat.zero_add] at C1
  have i0 : 0 ≤ (i : Int) := by omega
  have i1 : (i : Int) < 12 := by omega
  have W1 := Lib.hid (fun w hW => weekdayname_ok j w hW hj)
  have W2 := Lib.hid (fun w => name_any (weekdaysS.getD j []) w (weekday_okn j hj))
  have D1 := Lib.hid (fun w => weekdaysS_wl w j hj)
  rw [weekday_name j hj] at W2
  generalize (weekdaysL.getD j []).take 3 = T at *
  generalize weekdaysS.getD j [] = TT at *
  simp only [Nat.zero_add] at D1
  have j0 : 0 ≤ (j : Int) := by omega
  have j1 : (j : Int) < 7 := by omega
  rw [← hij] at W1
  rw [← hij] at j0 j1
  have HIJ := Lib.hid hij
  obtain rfl : j = i + 1 := by omega
  clear hij hi hj
  go_enter Tryd.func7, Tryd.ntmps7
  go_wp2_with fail
  refine (M1.out _ HM.out).mono ?_
  rintro e w1 ⟨rfl, hb⟩
  have HBw1 := Lib.hid (HBw.out.trans (hb.mono HBw.out.size))
  clear hb
  go_wp2_with fail
  refine (W1.out _ (HW.out.below HBw1.out)).mono ?_
  rintro e w2 ⟨rfl, hb⟩
  have HBw2 := Lib.hid (HBw1.out.trans (hb.mono HBw1.out.size))
  clear hb
  go_wp2_with fail
  refine (Months_any _).mono ?_
  rintro e w' ⟨rfl, rfl⟩
  have c1 := C1.out w2
  have HBa := Lib.hid (HBw2.out.alloc HBw2.out.size monthsSObj)
  go_wp2_with fail
  refine (M2.out _).mono ?_
  rintro e w3 ⟨rfl, hb⟩
  have HBw3 := Lib.hid (HBa.out.trans (hb.mono HBa.out.size))
  clear hb
  clear c1
  go_wp2_with fail
  refine (Weekdays_any _).mono ?_
  rintro e w' ⟨rfl, rfl⟩
  have c1 := D1.out w3
  have HBb := Lib.hid (HBw3.out.alloc HBw3.out.size weekdaysSObj)
  go_wp2_with fail
  refine (W2.out _).mono ?_
  rintro e w5 ⟨rfl, hb⟩
  have HBw5 := Lib.hid (HBb.out.trans (hb.mono HBb.out.size))
  clear hb
  clear c1
  go_wp2_with fail
  refine (awake_any _ (HM.out.below HBw5.out)).mono ?_
  rintro e w8 ⟨rfl, hb⟩
  have HBw8 := Lib.hid (HBw5.out.trans (hb.mono HBw5.out.size))
  clear hb
  go_wp2_with fail
  go_ret
  exact ⟨rfl, HBw8.out⟩
set_option maxHeartbeats 1000000 in
theorem walk_month (i : Nat) (w : World) (hM : Mon w) (hi : i < 12) (hj : 6 < (i : Int) + 1) : Calls Tryd.prog 7 #[.int .i64 ((i : Int) + 1)] w (One w) := by
  have HM := Lib.hid hM
  have HBw := Lib.hid (Below.refl w.heap.size w)
  have HJ := Lib.hid (show ¬ (0 ≤ (i : Int) + 1 ∧ (i : Int) + 1 ≤ 6) by omega)
  clear hM
  have M1 := Lib.hid (fun w hM => monthname_ok i w hM hi)
  have M2 := Lib.hid (fun w => name_any (monthsS.getD i []) w (month_okn i hi))
  have C1 := Lib.hid (fun w => monthsS_wl w i hi)
  rw [month_name i hi] at M2
  generalize (monthsL.getD i []).take 3 = S at *
  generalize monthsS.getD i [] = SS at *
  simp only [Nat.zero_add] at C1
  have i0 : 0 ≤ (i : Int) := by omega
  have i1 : (i : Int) < 12 := by omega
  clear hi
  go_enter Tryd.func7, Tryd.ntmps7
  go_wp2_with fail
  refine (M1.out _ HM.out).mono ?_
  rintro e w1 ⟨rfl, hb⟩
  have HBw1 := Lib.hid (HBw.out.trans (hb.mono HBw.out.size))
  clear hb
  go_wp2_with fail
  refine (weekdayname_no _ _ HJ.out).mono ?_
  rintro e w2 ⟨rfl, hb⟩
  have HBw2 := Lib.hid (HBw1.out.trans (hb.mono HBw1.out.size))
  clear hb
  go_wp2_with fail
  refine (Months_any _).mono ?_
  rintro e w' ⟨rfl, rfl⟩
  have c1 := C1.out w2
  have HBa := Lib.hid (HBw2.out.alloc HBw2.out.size monthsSObj)
  go_wp2_with fail
  refine (M2.out _).mono ?_
  rintro e w3 ⟨rfl, hb⟩
  have HBw3 := Lib.hid (HBa.out.trans (hb.mono HBa.out.size))
  clear hb
  clear c1
  go_wp2_with fail
  refine (awake_any _ (HM.out.below HBw3.out)).mono ?_
  rintro e w8 ⟨rfl, hb⟩
  have HBw8 := Lib.hid (HBw3.out.trans (hb.mono HBw3.out.size))
  clear hb
  go_wp2_with fail
  go_ret
  exact ⟨rfl, HBw8.out⟩
set_option maxHeartbeats 1000000 in
theorem walk_zero (w : World) (hM : Mon w) (hW : Wek w) : Calls Tryd.prog 7 #[.int .i64 0] w (One w) := by
  have HM := Lib.hid hM
  have HW := Lib.hid hW
  have HBw := Lib.hid (Below.refl w.heap.size w)
  have hj : 0 < 7 := by decide
  obtain ⟨j, hj0⟩ : ∃ j : Nat, j = 0 := ⟨0, rfl⟩
  rw [← hj0] at hj
  clear hM hW
  have W1 := Lib.hid (fun w hW => weekdayname_ok j w hW hj)
  have W2 := Lib.hid (fun w => name_any (weekdaysS.getD j []) w (weekday_okn j hj))
  have D1 := Lib.hid (fun w => weekdaysS_wl w j hj)
  rw [weekday_name j hj] at W2
  generalize (weekdaysL.getD j []).take 3 = T at *
  generalize weekdaysS.getD j [] = TT at *
  simp only [Nat.zero_add] at D1
  have j0 : 0 ≤ (j : Int) := by omega
  have j1 : (j : Int) < 7 := by omega
  rw [show (j : Int) = 0 by omega] at W1
  subst hj0
  clear j0 j1 hj
  go_enter Tryd.func7, Tryd.ntmps7
  go_wp2_with fail
  refine (monthname_no 0 _ (by decide) (by decide)).mono ?_
  rintro e w1 ⟨rfl, hb⟩
  have HBw1 := Lib.hid (HBw.out.trans (hb.mono HBw.out.size))
  clear hb
  go_wp2_with fail
  refine (W1.out _ (HW.out.below HBw1.out)).mono ?_
  rintro e w2 ⟨rfl, hb⟩
  have HBw2 := Lib.hid (HBw1.out.trans (hb.mono HBw1.out.size))
  clear hb
  go_wp2_with fail
  refine (Weekdays_any _).mono ?_
  rintro e w' ⟨rfl, rfl⟩
  have c1 := D1.out w2
  have HBb := Lib.hid (HBw2.out.alloc HBw2.out.size weekdaysSObj)
  go_wp2_with fail
  refine (W2.out _).mono ?_
  rintro e w5 ⟨rfl, hb⟩
  have HBw5 := Lib.hid (HBb.out.trans (hb.mono HBb.out.size))
  clear hb
  clear c1
  go_wp2_with fail
  refine (awake_any _ (HM.out.below HBw5.out)).mono ?_
  rintro e w8 ⟨rfl, hb⟩
  have HBw8 := Lib.hid (HBw5.out.trans (hb.mono HBw5.out.size))
  clear hb
  go_wp2_with fail
  go_ret
  exact ⟨rfl, HBw8.out⟩
set_option maxHeartbeats 1000000 in
theorem walk_none (n : Int) (w : World) (hM : Mon w) (hf : -9223372036854775808 ≤ n ∧ n ≤ 9223372036854775807) (h : ¬ (0 ≤ n ∧ n ≤ 12)) : Calls Tryd.prog 7 #[.int .i64 n] w (One w) := by
  have HM := Lib.hid hM
  have HF := Lib.hid hf
  have HBw := Lib.hid (Below.refl w.heap.size w)
  have HJ := Lib.hid (show ¬ (0 ≤ n ∧ n ≤ 6) by omega)
  have HI := Lib.hid (show ¬ (1 ≤ n ∧ n ≤ 12) by omega)
  by_cases h0 : n < 0
  · have h1 : n < 1 := by omega
    clear hM hf h
    go_enter Tryd.func7, Tryd.ntmps7
    go_wp2_with fail
    refine (monthname_no n _ HF.out HI.out).mono ?_
    rintro e w1 ⟨rfl, hb⟩
    have HBw1 := Lib.hid (HBw.out.trans (hb.mono HBw.out.size))
    clear hb
    go_wp2_with fail
    refine (weekdayname_no n _ HJ.out).mono ?_
    rintro e w2 ⟨rfl, hb⟩
    have HBw2 := Lib.hid (HBw1.out.trans (hb.mono HBw1.out.size))
    clear hb
    go_wp2_with fail
    refine (awake_any _ (HM.out.below HBw2.out)).mono ?_
    rintro e w8 ⟨rfl, hb⟩
    have HBw8 := Lib.hid (HBw2.out.trans (hb.mono HBw2.out.size))
    clear hb
    go_wp2_with fail
    go_ret
    exact ⟨rfl, HBw8.out⟩
  · have h1 : 12 < n := by omega
    clear hM hf h h0
    go_enter Tryd.func7, Tryd.ntmps7
    go_wp2_with fail
    refine (monthname_no n _ HF.out HI.out).mono ?_
    rintro e w1 ⟨rfl, hb⟩
    have HBw1 := Lib.hid (HBw.out.trans (hb.mono HBw.out.size))
    clear hb
    go_wp2_with fail
    refine (weekdayname_no n _ HJ.out).mono ?_
    rintro e w2 ⟨rfl, hb⟩
    have HBw2 := Lib.hid (HBw1.out.trans (hb.mono HBw1.out.size))
    clear hb
    go_wp2_with fail
    refine (awake_any _ (HM.out.below HBw2.out)).mono ?_
    rintro e w8 ⟨rfl, hb⟩
    have HBw8 := Lib.hid (HBw2.out.trans (hb.mono HBw2.out.size))
    clear hb
    go_wp2_with fail
    go_ret
    exact ⟨rfl, HBw8.out⟩
end wordsNames
end Go.Proofs.YtcfcfoiphadmkaaDoor
