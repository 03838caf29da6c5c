/-
  THE WALK of the law WordsYears.
-/
import Derived.Test.YtcfcfoiphadmkaaDoorYear
namespace Go.Proofs.YtcfcfoiphadmkaaDoor
open Go Go.RowKit

namespace wordsYears
set_option maxHeartbeats 2000000 in
theorem walk_0 (l : List UInt8) (n : Int) (w : World) (hM : Mon w) (hT : Txt w) (hl : l.length ≤ 40) (hf : fd (l.map low) onlysL = some 0) : Calls Tryd.prog 3 #[.string ⟨l.toArray⟩, .int .i64 n] w (One w) := by
  have RF := Lib.hid (show rfd (l.map low) onlysL = 0 by unfold rfd; rw [hf]; rfl)
  have HM := Lib.hid hM
  have HT := Lib.hid hT
  have HBw := Lib.hid (Below.refl w.heap.size w)
  have hl2 : (l.length : Int) ≤ 40 := by omega
  have HL := Lib.hid (show l.length ≤ 1000 by omega)
  have HF := Lib.hid hf
  clear hM hT hf
  go_enter Tryd.func3, Tryd.ntmps3
  go_wp2_with fail
  refine (year_0 l n _ HL.out HF.out).mono ?_
  rintro e w1 ⟨rfl, hb⟩
  have HBw1 := Lib.hid (HBw.out.trans (hb.mono HBw.out.size))
  clear hb
  go_wp2_with fail
  have HBa := Lib.hid (HBw1.out.alloc HBw1.out.size onlyObj)
  refine (rfind_any l w1.heap.size 0 2 onlysL _ HL.out (len_of (by decide)) (by decide) onlysL_small (by simp) (only_wl w1)).mono ?_
  rintro e w2 ⟨rfl, hb⟩
  have HBw2 := Lib.hid (HBa.out.trans (hb.mono HBa.out.size))
  clear hb
  rw [RF.out]
  go_wp2_with fail
  refine (awake_any _ (HM.out.below HBw2.out)).mono ?_
  rintro e w8 ⟨rfl, hb⟩
  have HBw8 := Lib.hid (HBw2.out.trans (hb.mono HBw2.out.size))
  clear hb
  go_wp2_with fail
  go_ret
  exact ⟨rfl, HBw8.out⟩
set_option maxHeartbeats 2000000 in
theorem walk_1 (l : List UInt8) (n : Int) (w : World) (hM : Mon w) (hT : Txt w) (hl : l.length ≤ 40) (hf : fd (l.map low) onlysL = some 1) : Calls Tryd.prog 3 #[.string ⟨l.toArray⟩, .int .i64 n] w (One w) := by
  have RF := Lib.hid (show rfd (l.map low) onlysL = 1 by unfold rfd; rw [hf]; rfl)
  have HM := Lib.hid hM
  have HT := Lib.hid hT
  have HBw := Lib.hid (Below.refl w.heap.size w)
  have hl2 : (l.length : Int) ≤ 40 := by omega
  have HL := Lib.hid (show l.length ≤ 1000 by omega)
  have HF := Lib.hid hf
  clear hM hT hf
  go_enter Tryd.func3, Tryd.ntmps3
  go_wp2_with fail
  refine (year_1 l n _ HL.out HF.out).mono ?_
  rintro e w1 ⟨rfl, hb⟩
  have HBw1 := Lib.hid (HBw.out.trans (hb.mono HBw.out.size))
  clear hb
  go_wp2_with fail
  have HBa := Lib.hid (HBw1.out.alloc HBw1.out.size onlyObj)
  refine (rfind_any l w1.heap.size 0 2 onlysL _ HL.out (len_of (by decide)) (by decide) onlysL_small (by simp) (only_wl w1)).mono ?_
  rintro e w2 ⟨rfl, hb⟩
  have HBw2 := Lib.hid (HBa.out.trans (hb.mono HBa.out.size))
  clear hb
  rw [RF.out]
  go_wp2_with fail
  refine (awake_any _ (HM.out.below HBw2.out)).mono ?_
  rintro e w8 ⟨rfl, hb⟩
  have HBw8 := Lib.hid (HBw2.out.trans (hb.mono HBw2.out.size))
  clear hb
  go_wp2_with fail
  go_ret
  exact ⟨rfl, HBw8.out⟩
set_option maxHeartbeats 2000000 in
theorem walk_n (l : List UInt8) (n : Int) (w : World) (hM : Mon w) (hT : Txt w) (hl : l.length ≤ 40) (hf : fd (l.map low) onlysL = none) : Calls Tryd.prog 3 #[.string ⟨l.toArray⟩, .int .i64 n] w (One w) := by
  have RF := Lib.hid (show rfd (l.map low) onlysL = -1 by unfold rfd; rw [hf])
  cases hN : number l with
  | none =>
    have Y1 := Lib.hid (yrV_none hN)
    have Y2 := Lib.hid (numV_none hN)
    clear hN
    have HM := Lib.hid hM
    have HT := Lib.hid hT
    have HBw := Lib.hid (Below.refl w.heap.size w)
    have hl2 : (l.length : Int) ≤ 40 := by omega
    have HL := Lib.hid (show l.length ≤ 1000 by omega)
    have HF := Lib.hid hf
    clear hM hT hf
    go_enter Tryd.func3, Tryd.ntmps3
    go_wp2_with fail
    refine (year_none l n _ HL.out HT.out HF.out).mono ?_
    rintro e w1 ⟨rfl, hb⟩
    have HBw1 := Lib.hid (HBw.out.trans (hb.mono HBw.out.size))
    clear hb
    rw [Y1.out]
    go_wp2_with fail
    have HBa := Lib.hid (HBw1.out.alloc HBw1.out.size onlyObj)
    refine (rfind_any l w1.heap.size 0 2 onlysL _ HL.out (len_of (by decide)) (by decide) onlysL_small (by simp) (only_wl w1)).mono ?_
    rintro e w2 ⟨rfl, hb⟩
    have HBw2 := Lib.hid (HBa.out.trans (hb.mono HBa.out.size))
    clear hb
    rw [RF.out]
    go_wp2_with fail
    refine (rnumber_any l _ HL.out).mono ?_
    rintro e w' ⟨rfl, rfl⟩
    rw [Y2.out]
    go_wp2_with fail
    refine (awake_any _ (HM.out.below HBw2.out)).mono ?_
    rintro e w8 ⟨rfl, hb⟩
    have HBw8 := Lib.hid (HBw2.out.trans (hb.mono HBw2.out.size))
    clear hb
    go_wp2_with fail
    go_ret
    exact ⟨rfl, HBw8.out⟩
  | some m =>
    have Y2 := Lib.hid (numV_some hN)
    have mb := number_itoa hN
    have m0 : -1000000000 < m := mb.2.2.2.2.1
    have m1 : m < 1000000000 := mb.2.2.2.2.2
    clear mb
    by_cases a1 : m < 1
    · have Y1 := Lib.hid (yrV_out hN (.inl a1))
      clear hN
      have HM := Lib.hid hM
      have HT := Lib.hid hT
      have HBw := Lib.hid (Below.refl w.heap.size w)
      have hl2 : (l.length : Int) ≤ 40 := by omega
      have HL := Lib.hid (show l.length ≤ 1000 by omega)
      have HF := Lib.hid hf
      clear hM hT hf
      go_enter Tryd.func3, Tryd.ntmps3
      go_wp2_with fail
      refine (year_none l n _ HL.out HT.out HF.out).mono ?_
      rintro e w1 ⟨rfl, hb⟩
      have HBw1 := Lib.hid (HBw.out.trans (hb.mono HBw.out.size))
      clear hb
      rw [Y1.out]
      go_wp2_with fail
      have HBa := Lib.hid (HBw1.out.alloc HBw1.out.size onlyObj)
      refine (rfind_any l w1.heap.size 0 2 onlysL _ HL.out (len_of (by decide)) (by decide) onlysL_small (by simp) (only_wl w1)).mono ?_
      rintro e w2 ⟨rfl, hb⟩
      have HBw2 := Lib.hid (HBa.out.trans (hb.mono HBa.out.size))
      clear hb
      rw [RF.out]
      go_wp2_with fail
      refine (rnumber_any l _ HL.out).mono ?_
      rintro e w' ⟨rfl, rfl⟩
      rw [Y2.out]
      go_wp2_with fail
      refine (awake_any _ (HM.out.below HBw2.out)).mono ?_
      rintro e w8 ⟨rfl, hb⟩
      have HBw8 := Lib.hid (HBw2.out.trans (hb.mono HBw2.out.size))
      clear hb
      go_wp2_with fail
      go_ret
      exact ⟨rfl, HBw8.out⟩
    · by_cases a2 : 4000 < m
      · have Y1 := Lib.hid (yrV_out hN (.inr a2))
        clear hN
        have HM := Lib.hid hM
        have HT := Lib.hid hT
        have HBw := Lib.hid (Below.refl w.heap.size w)
        have hl2 : (l.length : Int) ≤ 40 := by omega
        have HL := Lib.hid (show l.length ≤ 1000 by omega)
        have HF := Lib.hid hf
        clear hM hT hf
        go_enter Tryd.func3, Tryd.ntmps3
        go_wp2_with fail
        refine (year_none l n _ HL.out HT.out HF.out).mono ?_
        rintro e w1 ⟨rfl, hb⟩
        have HBw1 := Lib.hid (HBw.out.trans (hb.mono HBw.out.size))
        clear hb
        rw [Y1.out]
        go_wp2_with fail
        have HBa := Lib.hid (HBw1.out.alloc HBw1.out.size onlyObj)
        refine (rfind_any l w1.heap.size 0 2 onlysL _ HL.out (len_of (by decide)) (by decide) onlysL_small (by simp) (only_wl w1)).mono ?_
        rintro e w2 ⟨rfl, hb⟩
        have HBw2 := Lib.hid (HBa.out.trans (hb.mono HBa.out.size))
        clear hb
        rw [RF.out]
        go_wp2_with fail
        refine (rnumber_any l _ HL.out).mono ?_
        rintro e w' ⟨rfl, rfl⟩
        rw [Y2.out]
        go_wp2_with fail
        refine (awake_any _ (HM.out.below HBw2.out)).mono ?_
        rintro e w8 ⟨rfl, hb⟩
        have HBw8 := Lib.hid (HBw2.out.trans (hb.mono HBw2.out.size))
        clear hb
        go_wp2_with fail
        go_ret
        exact ⟨rfl, HBw8.out⟩
      · have Y1 := Lib.hid (yrV_in hN (by omega))
        clear hN
        have HM := Lib.hid hM
        have HT := Lib.hid hT
        have HBw := Lib.hid (Below.refl w.heap.size w)
        have hl2 : (l.length : Int) ≤ 40 := by omega
        have HL := Lib.hid (show l.length ≤ 1000 by omega)
        have HF := Lib.hid hf
        clear hM hT hf
        go_enter Tryd.func3, Tryd.ntmps3
        go_wp2_with fail
        refine (year_none l n _ HL.out HT.out HF.out).mono ?_
        rintro e w1 ⟨rfl, hb⟩
        have HBw1 := Lib.hid (HBw.out.trans (hb.mono HBw.out.size))
        clear hb
        rw [Y1.out]
        go_wp2_with fail
        have HBa := Lib.hid (HBw1.out.alloc HBw1.out.size onlyObj)
        refine (rfind_any l w1.heap.size 0 2 onlysL _ HL.out (len_of (by decide)) (by decide) onlysL_small (by simp) (only_wl w1)).mono ?_
        rintro e w2 ⟨rfl, hb⟩
        have HBw2 := Lib.hid (HBa.out.trans (hb.mono HBa.out.size))
        clear hb
        rw [RF.out]
        go_wp2_with fail
        refine (rnumber_any l _ HL.out).mono ?_
        rintro e w' ⟨rfl, rfl⟩
        rw [Y2.out]
        go_wp2_with fail
        refine (awake_any _ (HM.out.below HBw2.out)).mono ?_
        rintro e w8 ⟨rfl, hb⟩
        have HBw8 := Lib.hid (HBw2.out.trans (hb.mono HBw2.out.size))
        clear hb
        go_wp2_with fail
        go_ret
        exact ⟨rfl, HBw8.out⟩
theorem walk_big (l : List UInt8) (n : Int) (w : World) (hM : Mon w) (hl : 40 < l.length) : Calls Tryd.prog 3 #[.string ⟨l.toArray⟩, .int .i64 n] w (One w) := by
  have HM := Lib.hid hM
  have HBw := Lib.hid (Below.refl w.heap.size w)
  have hl2 : 40 < (l.length : Int) := by omega
  clear hM
  go_enter Tryd.func3, Tryd.ntmps3
  go_wp2_with fail
  refine (awake_any _ (HM.out.below HBw.out)).mono ?_
  rintro e w8 ⟨rfl, hb⟩
  have HBw8 := Lib.hid (HBw.out.trans (hb.mono HBw.out.size))
  clear hb
  go_wp2_with fail
  go_ret
  exact ⟨rfl, HBw8.out⟩
theorem walk (l : List UInt8) (n : Int) (w : World) (hM : Mon w) (hT : Txt w) : Calls Tryd.prog 3 #[.string ⟨l.toArray⟩, .int .i64 n] w (One w) := by
  by_cases hl : l.length ≤ 40
  · cases hf : fd (l.map low) onlysL with
    | none => exact walk_n l n w hM hT hl hf
    | some i =>
      have := fd_lt hf
      match i, this with
      | 0, _ => exact walk_0 l n w hM hT hl hf
      | 1, _ => exact walk_1 l n w hM hT hl hf
  · exact walk_big l n w hM (by omega)
end wordsYears
end Go.Proofs.YtcfcfoiphadmkaaDoor
