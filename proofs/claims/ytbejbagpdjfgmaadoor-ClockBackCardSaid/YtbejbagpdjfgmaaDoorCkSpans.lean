/-
  THE LAW ClockSpans, walked.
-/
import Derived.Test.YtbejbagpdjfgmaaDoorRSpanW
import Derived.Test.YtbejbagpdjfgmaaDoorRText
import Derived.Test.YtbejbagpdjfgmaaDoorRClock
namespace Go.Proofs.YtbejbagpdjfgmaaDoor.clockSpans
open Go Go.RowKit
theorem cspan (l : List UInt8) (w : World) (hl : l.length ≤ 1000) (hT : Txt w) :
    Calls Tryd.prog 18 #[.string ⟨l.toArray⟩] w fun e w' => e = .returned (.tuple #[.int .i64 (spI l).1, .int .i64 (spI l).2]) ∧ Below w.heap.size w w' := by
  have := span_any l w hl hT
  rwa [spV_eq] at this
set_option maxRecDepth 100000 in
set_option maxHeartbeats 2000000 in
theorem walk_long (n : Int) (l : List UInt8) (w : World) (h : Reads w) (hl : 40 < (⟨l.toArray⟩ : ByteArray).size) :
    Calls Tryd.prog 5 #[.int .i64 n, .string ⟨l.toArray⟩] w (One w) := by
  have HR := Lib.hid h
  have HBw := Lib.hid (Below.refl w.heap.size w)
  have hl2 : (40 : Int) < (l.length : Int) := by
    have : (⟨l.toArray⟩ : ByteArray).size = l.length := by show l.toArray.size = _; simp
    omega
  clear h hl
  go_enter Tryd.func5, Tryd.ntmps5
  skip
  go_wp2_with fail
  refine (awake_any _ (HR.out.below HBw.out)).mono ?_
  rintro e w1 ⟨rfl, hbw1⟩
  have HBw1 := Lib.hid (HBw.out.trans (hbw1.mono HBw.out.size))
  clear hbw1
  go_wp2_with fail
  go_ret
  exact ⟨rfl, HBw1.out⟩
set_option maxRecDepth 100000 in
set_option maxHeartbeats 2000000 in
theorem walk_far (n : Int) (l : List UInt8) (w : World) (h : Reads w) (hl : ¬ 40 < (⟨l.toArray⟩ : ByteArray).size) (hn : n ≤ -604800 ∨ 604800 ≤ n) :
    Calls Tryd.prog 5 #[.int .i64 n, .string ⟨l.toArray⟩] w (One w) := by
  have HR := Lib.hid h
  have HBw := Lib.hid (Below.refl w.heap.size w)
  have hl2 : (l.length : Int) ≤ 40 := by
    have : (⟨l.toArray⟩ : ByteArray).size = l.length := by show l.toArray.size = _; simp
    omega
  have SP := Lib.hid (fun w => cspan l w (by omega))
  have SR := Lib.hid (fun w => rspan_any l w (by omega))
  generalize (spI l).1 = a at *
  generalize (spI l).2 = b at *
  clear h hl
  have HN := Lib.hid hn
  clear hn
  go_enter Tryd.func5, Tryd.ntmps5
  go_wp2_with fail
  refine (text_no n _ HN.out).mono ?_
  rintro e w1 ⟨rfl, hbw1⟩
  have HBw1 := Lib.hid (HBw.out.trans (hbw1.mono HBw.out.size))
  clear hbw1
  go_wp2_with fail
  refine (far_yes n _ HN.out).mono ?_
  rintro e9 w9 ⟨rfl, rfl⟩
  go_wp2_with fail
  refine (SP.out _ (HR.out.below HBw1.out).t).mono ?_
  rintro e w3 ⟨rfl, hbw3⟩
  have HBw3 := Lib.hid (HBw1.out.trans (hbw3.mono HBw1.out.size))
  clear hbw3
  go_wp2_with fail
  refine (SR.out _).mono ?_
  rintro e w4 ⟨rfl, hbw4⟩
  have HBw4 := Lib.hid (HBw3.out.trans (hbw4.mono HBw3.out.size))
  clear hbw4
  go_wp2_with fail
  refine (awake_any _ (HR.out.below HBw4.out)).mono ?_
  rintro e w5 ⟨rfl, hbw5⟩
  have HBw5 := Lib.hid (HBw4.out.trans (hbw5.mono HBw4.out.size))
  clear hbw5
  go_wp2_with fail
  go_ret
  exact ⟨rfl, HBw5.out⟩
set_option maxRecDepth 100000 in
set_option maxHeartbeats 2000000 in
theorem walk_near (n : Int) (l : List UInt8) (w : World) (h : Reads w) (hl : ¬ 40 < (⟨l.toArray⟩ : ByteArray).size) (h1 : -604800 < n) (h2 : n < 604800) :
    Calls Tryd.prog 5 #[.int .i64 n, .string ⟨l.toArray⟩] w (One w) := by
  have HR := Lib.hid h
  have HBw := Lib.hid (Below.refl w.heap.size w)
  have hl2 : (l.length : Int) ≤ 40 := by
    have : (⟨l.toArray⟩ : ByteArray).size = l.length := by show l.toArray.size = _; simp
    omega
  have SP := Lib.hid (fun w => cspan l w (by omega))
  have SR := Lib.hid (fun w => rspan_any l w (by omega))
  generalize (spI l).1 = a at *
  generalize (spI l).2 = b at *
  clear h hl
  have TT := Lib.hid (fun w => text_ok n w h1 h2)
  have TR := Lib.hid (fun w => rtext_ok n w h1 h2)
  have FN := Lib.hid (fun w => far_no n w h1 h2)
  generalize textOf n = T at *
  clear h1 h2
  go_enter Tryd.func5, Tryd.ntmps5
  go_wp2_with fail
  refine (TT.out _ HR.out.p).mono ?_
  rintro e w1 ⟨rfl, hbw1⟩
  have HBw1 := Lib.hid (HBw.out.trans (hbw1.mono HBw.out.size))
  clear hbw1
  go_wp2_with fail
  refine (FN.out _).mono ?_
  rintro e9 w9 ⟨rfl, rfl⟩
  go_wp2_with fail
  refine (TR.out _).mono ?_
  rintro e w2 ⟨rfl, hbw2⟩
  have HBw2 := Lib.hid (HBw1.out.trans (hbw2.mono HBw1.out.size))
  clear hbw2
  go_wp2_with fail
  refine (SP.out _ (HR.out.below HBw2.out).t).mono ?_
  rintro e w3 ⟨rfl, hbw3⟩
  have HBw3 := Lib.hid (HBw2.out.trans (hbw3.mono HBw2.out.size))
  clear hbw3
  go_wp2_with fail
  refine (SR.out _).mono ?_
  rintro e w4 ⟨rfl, hbw4⟩
  have HBw4 := Lib.hid (HBw3.out.trans (hbw4.mono HBw3.out.size))
  clear hbw4
  go_wp2_with fail
  refine (awake_any _ (HR.out.below HBw4.out)).mono ?_
  rintro e w5 ⟨rfl, hbw5⟩
  have HBw5 := Lib.hid (HBw4.out.trans (hbw5.mono HBw4.out.size))
  clear hbw5
  go_wp2_with fail
  go_ret
  exact ⟨rfl, HBw5.out⟩
theorem walk (n : Int) (l : List UInt8) (w : World) (h : Reads w) : Calls Tryd.prog 5 #[.int .i64 n, .string ⟨l.toArray⟩] w (One w) := by
  by_cases hl : 40 < (⟨l.toArray⟩ : ByteArray).size
  · exact walk_long n l w h hl
  · by_cases hn : n ≤ -604800 ∨ 604800 ≤ n
    · exact walk_far n l w h hl hn
    · exact walk_near n l w h hl (by omega) (by omega)
end Go.Proofs.YtbejbagpdjfgmaaDoor.clockSpans
