/-
  THE WALK of the law WordsFind.
-/
import Derived.Test.YtcfcfoiphadmkaaDoorRWords
namespace Go.Proofs.YtcfcfoiphadmkaaDoor
open Go Go.RowKit

namespace wordsFind
set_option maxHeartbeats 2000000 in
theorem walk_small (l : List UInt8) (w : World) (hM : Mon w) (hW : Wek w) (hl : l.length ≤ 40) : Calls Tryd.prog 5 #[.string ⟨l.toArray⟩] w (One w) := by
  have HM := Lib.hid hM
  have HW := Lib.hid hW
  have HL := Lib.hid (show l.length ≤ 1000 by omega)
  have HBw := Lib.hid (Below.refl w.heap.size w)
  have hl2 : (l.length : Int) ≤ 40 := by omega
  clear hM hW
  obtain ⟨a, e, k1, k2⟩ := word_up 1 (l.map low) kindsL kindsL (by decide) (by decide) rfl
  obtain ⟨b, f, m1, m2⟩ := word_up 1 (l.map low) monthsL monthsS (by decide) (by decide) (fd_months _)
  obtain ⟨c, g, d1, d2⟩ := word_up 0 (l.map low) weekdaysL weekdaysS (by decide) (by decide) (fd_weekdays _)
  have K1 := Lib.hid k1
  have K2 := Lib.hid k2
  have M1 := Lib.hid m1
  have M2 := Lib.hid m2
  have D1 := Lib.hid ((fdV_up _ _).trans d1)
  have D2 := Lib.hid d2
  clear k1 k2 m1 m2 d1 d2
  go_enter Tryd.func5, Tryd.ntmps5
  go_wp2_with fail
  refine (kind_any l _ HL.out).mono ?_
  rintro e w1 ⟨rfl, hb⟩
  have HBw1 := Lib.hid (HBw.out.trans (hb.mono HBw.out.size))
  clear hb
  rw [K1.out]
  go_wp2_with fail
  refine (month_any l _ (HM.out.below HBw1.out) HL.out).mono ?_
  rintro e w2 ⟨rfl, hb⟩
  have HBw2 := Lib.hid (HBw1.out.trans (hb.mono HBw1.out.size))
  clear hb
  rw [M1.out]
  go_wp2_with fail
  refine (weekday_any l _ (HW.out.below HBw2.out) HL.out).mono ?_
  rintro e w3 ⟨rfl, hb⟩
  have HBw3 := Lib.hid (HBw2.out.trans (hb.mono HBw2.out.size))
  clear hb
  rw [D1.out]
  go_wp2_with fail
  refine (Kinds_any _).mono ?_
  rintro e w' ⟨rfl, rfl⟩
  go_wp2_with fail
  have HBw3a := Lib.hid (HBw3.out.alloc HBw3.out.size kindsLObj)
  refine (rfind_any l w3.heap.size 0 3 kindsL _ HL.out (len_of (by decide)) (by decide) kindsL_small (by simp) (kindsL_wl w3)).mono ?_
  rintro e w4 ⟨rfl, hb⟩
  have HBw4 := Lib.hid (HBw3a.out.trans (hb.mono HBw3a.out.size))
  clear hb
  go_wp2_with fail
  refine (K2.out _).mono ?_
  rintro e w' ⟨rfl, rfl⟩
  go_wp2_with fail
  refine (Months_any _).mono ?_
  rintro e w' ⟨rfl, rfl⟩
  go_wp2_with fail
  have HBw4a := Lib.hid (HBw4.out.alloc HBw4.out.size monthsSObj)
  refine (rfind_any l w4.heap.size 0 12 monthsS _ HL.out (len_of (by decide)) (by decide) monthsS_small (by simp) (monthsS_wl w4)).mono ?_
  rintro e w5 ⟨rfl, hb⟩
  have HBw5 := Lib.hid (HBw4a.out.trans (hb.mono HBw4a.out.size))
  clear hb
  go_wp2_with fail
  refine (M2.out _).mono ?_
  rintro e w' ⟨rfl, rfl⟩
  go_wp2_with fail
  refine (Weekdays_any _).mono ?_
  rintro e w' ⟨rfl, rfl⟩
  go_wp2_with fail
  have HBw5a := Lib.hid (HBw5.out.alloc HBw5.out.size weekdaysSObj)
  refine (rfind_any l w5.heap.size 0 7 weekdaysS _ HL.out (len_of (by decide)) (by decide) weekdaysS_small (by simp) (weekdaysS_wl w5)).mono ?_
  rintro e w6 ⟨rfl, hb⟩
  have HBw6 := Lib.hid (HBw5a.out.trans (hb.mono HBw5a.out.size))
  clear hb
  go_wp2_with fail
  refine (D2.out _).mono ?_
  rintro e w' ⟨rfl, rfl⟩
  go_wp2_with fail
  refine (awake_any _ (HM.out.below HBw6.out)).mono ?_
  rintro e w7 ⟨rfl, hb⟩
  have HBw7 := Lib.hid (HBw6.out.trans (hb.mono HBw6.out.size))
  clear hb
  go_wp2_with fail
  go_ret
  exact ⟨rfl, HBw7.out⟩
theorem walk_big (l : List UInt8) (w : World) (hM : Mon w) (hl : 40 < l.length) : Calls Tryd.prog 5 #[.string ⟨l.toArray⟩] w (One w) := by
  have HM := Lib.hid hM
  have HBw := Lib.hid (Below.refl w.heap.size w)
  have hl2 : 40 < (l.length : Int) := by omega
  clear hM
  go_enter Tryd.func5, Tryd.ntmps5
  go_wp2_with fail
  refine (awake_any _ HM.out).mono ?_
  rintro e w8 ⟨rfl, hb⟩
  have HBw8 := Lib.hid (HBw.out.trans (hb.mono HBw.out.size))
  clear hb
  go_wp2_with fail
  go_ret
  exact ⟨rfl, HBw8.out⟩
end wordsFind
end Go.Proofs.YtcfcfoiphadmkaaDoor
