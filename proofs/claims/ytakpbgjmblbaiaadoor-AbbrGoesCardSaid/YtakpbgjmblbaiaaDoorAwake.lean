/-
  THE WALKS of the chapter's examples, and of the law AbbrKinds.
-/
import Derived.Test.YtakpbgjmblbaiaaDoorRShow
namespace Go.Proofs.YtakpbgjmblbaiaaDoor
open Go Go.RowKit AbbM

/-- a law's end: true, and what was there is as it was -/
def One (w : World) (e : Ending) (w' : World) : Prop := e = .returned (.bool true) ∧ Below w.heap.size w w'
theorem ex1 : showV [69, 37, 115, 84] 0 true [68] = .tuple #[.string ⟨#[69, 68, 84]⟩, .int .i64 0] := by
  unfold showV
  rw [show showS [69, 37, 115, 84] 0 true [68] = [69, 68, 84] by decide +kernel, show showE [69, 37, 115, 84] 0 = 0 by decide +kernel]
theorem ex2 : showV [71, 77, 84, 47, 66, 83, 84] 0 true [] = .tuple #[.string ⟨#[66, 83, 84]⟩, .int .i64 0] := by
  unfold showV
  rw [show showS [71, 77, 84, 47, 66, 83, 84] 0 true [] = [66, 83, 84] by decide +kernel, show showE [71, 77, 84, 47, 66, 83, 84] 0 = 0 by decide +kernel]
theorem ex3 : showV [37, 122] 20700 false [] = .tuple #[.string ⟨#[43, 48, 53, 52, 53]⟩, .int .i64 0] := by
  unfold showV
  rw [show showS [37, 122] 20700 false [] = [43, 48, 53, 52, 53] by decide +kernel, show showE [37, 122] 20700 = 0 by decide +kernel]
theorem ex4 : (offText (-1)).toArray = #[45, 48, 48, 48, 48, 48, 49] := by
  rw [show offText (-1) = [45, 48, 48, 48, 48, 48, 49] by decide +kernel]
theorem awake_any (w : World) (hB : Big w) :
    Calls Tryd.prog 10 #[] w fun e w' => e = .returned (.bool true) ∧ Below w.heap.size w w' := by
  have HBg := Lib.hid hB
  have HBw := Lib.hid (Below.refl w.heap.size w)
  clear hB
  have E1 := Lib.hid ex1
  have E2 := Lib.hid ex2
  have E3 := Lib.hid ex3
  have E4 := Lib.hid ex4
  go_enter Tryd.func10, Tryd.ntmps10
  go_wp2_with fail
  refine (show_any [69, 37, 115, 84] 0 true [68] _ HBg.out (by decide) (by decide)).mono ?_
  rintro e w1 ⟨rfl, hb⟩
  have HBw1 := Lib.hid (HBw.out.trans (hb.mono HBw.out.size))
  clear hb
  rw [E1.out]
  go_wp2_with fail
  refine (show_any [71, 77, 84, 47, 66, 83, 84] 0 true [] _ (HBg.out.below HBw1.out) (by decide) (by decide)).mono ?_
  rintro e w2 ⟨rfl, hb⟩
  have HBw2 := Lib.hid (HBw1.out.trans (hb.mono HBw1.out.size))
  clear hb
  rw [E2.out]
  go_wp2_with fail
  refine (show_any [37, 122] 20700 false [] _ (HBg.out.below HBw2.out) (by decide) (by decide)).mono ?_
  rintro e w3 ⟨rfl, hb⟩
  have HBw3 := Lib.hid (HBw2.out.trans (hb.mono HBw2.out.size))
  clear hb
  rw [E3.out]
  go_wp2_with fail
  refine (offset_ok (-1) _ (by decide) (by decide)).mono ?_
  rintro e w4 ⟨rfl, hb⟩
  have HBw4 := Lib.hid (HBw3.out.trans (hb.mono HBw3.out.size))
  clear hb
  rw [E4.out]
  go_wp2_with fail
  go_ret
  exact ⟨rfl, HBw4.out⟩
namespace abbrKinds
theorem walk (l : List UInt8) (w : World) (hB : Big w) : Calls Tryd.prog 3 #[.string ⟨l.toArray⟩] w (One w) := by
  have HBg := Lib.hid hB
  have HBw := Lib.hid (Below.refl w.heap.size w)
  clear hB
  by_cases hl : l.length ≤ 200
  · have h2 : (l.length : Int) ≤ 200 := by omega
    have HL := Lib.hid (show l.length ≤ 1000 by omega)
    rcases kind_cases l with hK | hK | ⟨p, hK⟩ | ⟨p, hK⟩ | ⟨p, hK⟩
    · have HK := Lib.hid hK
      clear hK hl
      go_enter Tryd.func3, Tryd.ntmps3
      go_wp2_with fail
      refine (kind_any l _ HBg.out HL.out).mono ?_
      rintro e w1 ⟨rfl, hb⟩
      have HBw1 := Lib.hid (HBw.out.trans (hb.mono HBw.out.size))
      clear hb
      rw [kret_no HK.out]
      go_wp2_with fail
      refine (rkind_any l _ HL.out).mono ?_
      rintro e w' ⟨rfl, rfl⟩
      rw [rkret_eq HK.out]
      go_wp2_with fail
      refine (awake_any _ (HBg.out.below HBw1.out)).mono ?_
      rintro e w8 ⟨rfl, hb⟩
      have HBw8 := Lib.hid (HBw1.out.trans (hb.mono HBw1.out.size))
      clear hb
      go_wp2_with fail
      go_ret
      exact ⟨rfl, HBw8.out⟩
    · have HK := Lib.hid hK
      clear hK hl
      go_enter Tryd.func3, Tryd.ntmps3
      go_wp2_with fail
      refine (kind_any l _ HBg.out HL.out).mono ?_
      rintro e w1 ⟨rfl, hb⟩
      have HBw1 := Lib.hid (HBw.out.trans (hb.mono HBw.out.size))
      clear hb
      rw [kret_ok HK.out (by decide)]
      go_wp2_with fail
      refine (rkind_any l _ HL.out).mono ?_
      rintro e w' ⟨rfl, rfl⟩
      rw [rkret_eq HK.out]
      go_wp2_with fail
      refine (awake_any _ (HBg.out.below HBw1.out)).mono ?_
      rintro e w8 ⟨rfl, hb⟩
      have HBw8 := Lib.hid (HBw1.out.trans (hb.mono HBw1.out.size))
      clear hb
      go_wp2_with fail
      go_ret
      exact ⟨rfl, HBw8.out⟩
    · have HK := Lib.hid hK
      clear hK hl
      go_enter Tryd.func3, Tryd.ntmps3
      go_wp2_with fail
      refine (kind_any l _ HBg.out HL.out).mono ?_
      rintro e w1 ⟨rfl, hb⟩
      have HBw1 := Lib.hid (HBw.out.trans (hb.mono HBw.out.size))
      clear hb
      rw [kret_ok HK.out (by decide)]
      go_wp2_with fail
      refine (rkind_any l _ HL.out).mono ?_
      rintro e w' ⟨rfl, rfl⟩
      rw [rkret_eq HK.out]
      go_wp2_with fail
      refine (awake_any _ (HBg.out.below HBw1.out)).mono ?_
      rintro e w8 ⟨rfl, hb⟩
      have HBw8 := Lib.hid (HBw1.out.trans (hb.mono HBw1.out.size))
      clear hb
      go_wp2_with fail
      go_ret
      exact ⟨rfl, HBw8.out⟩
    · have HK := Lib.hid hK
      clear hK hl
      go_enter Tryd.func3, Tryd.ntmps3
      go_wp2_with fail
      refine (kind_any l _ HBg.out HL.out).mono ?_
      rintro e w1 ⟨rfl, hb⟩
      have HBw1 := Lib.hid (HBw.out.trans (hb.mono HBw.out.size))
      clear hb
      rw [kret_ok HK.out (by decide)]
      go_wp2_with fail
      refine (rkind_any l _ HL.out).mono ?_
      rintro e w' ⟨rfl, rfl⟩
      rw [rkret_eq HK.out]
      go_wp2_with fail
      refine (awake_any _ (HBg.out.below HBw1.out)).mono ?_
      rintro e w8 ⟨rfl, hb⟩
      have HBw8 := Lib.hid (HBw1.out.trans (hb.mono HBw1.out.size))
      clear hb
      go_wp2_with fail
      go_ret
      exact ⟨rfl, HBw8.out⟩
    · have HK := Lib.hid hK
      clear hK hl
      go_enter Tryd.func3, Tryd.ntmps3
      go_wp2_with fail
      refine (kind_any l _ HBg.out HL.out).mono ?_
      rintro e w1 ⟨rfl, hb⟩
      have HBw1 := Lib.hid (HBw.out.trans (hb.mono HBw.out.size))
      clear hb
      rw [kret_ok HK.out (by decide)]
      go_wp2_with fail
      refine (rkind_any l _ HL.out).mono ?_
      rintro e w' ⟨rfl, rfl⟩
      rw [rkret_eq HK.out]
      go_wp2_with fail
      refine (awake_any _ (HBg.out.below HBw1.out)).mono ?_
      rintro e w8 ⟨rfl, hb⟩
      have HBw8 := Lib.hid (HBw1.out.trans (hb.mono HBw1.out.size))
      clear hb
      go_wp2_with fail
      go_ret
      exact ⟨rfl, HBw8.out⟩
  · have h2 : 200 < (l.length : Int) := by omega
    clear hl
    have HBw1 := HBw
    go_enter Tryd.func3, Tryd.ntmps3
    go_wp2_with fail
    refine (awake_any _ HBg.out).mono ?_
    rintro e w8 ⟨rfl, hb⟩
    have HBw8 := Lib.hid (HBw.out.trans (hb.mono HBw.out.size))
    clear hb
    go_wp2_with fail
    go_ret
    exact ⟨rfl, HBw8.out⟩
end abbrKinds
end Go.Proofs.YtakpbgjmblbaiaaDoor
