/-
  THE WALKS of words.Year where a word is one of the two; of words.MonthName, WeekdayName; of the chapter's examples.
-/
import Derived.Test.YtcfcfoiphadmkaaDoorWords
namespace Go.Proofs.YtcfcfoiphadmkaaDoor
open Go Go.RowKit

/-- a law's end: true, and what was there is as it was -/
def One (w : World) (e : Ending) (w' : World) : Prop := e = .returned (.bool true) ∧ Below w.heap.size w w'
abbrev onlyObj : Obj := .cells #[.string ⟨#[111, 110, 108, 121]⟩, .string ⟨#[109, 97, 120, 105, 109, 117, 109]⟩] 9
theorem only_wl (w : World) : WL (w.alloc onlyObj) w.heap.size 0 onlysL := fun j hj => by
  rw [Nat.zero_add]
  refine (World.cell?_alloc_mark w _ _ _ j).trans ?_
  match j, hj with
  | 0, _ => rfl
  | 1, _ => rfl
theorem year_0 (l : List UInt8) (n : Int) (w : World) (hl : l.length ≤ 1000) (hf : fd (l.map low) onlysL = some 0) :
    Calls Tryd.prog 10 #[.string ⟨l.toArray⟩, .int .i64 n] w fun e w' => e = .returned (.tuple #[.int .i64 n, .int .i64 0]) ∧ Below w.heap.size w w' := by
  have HL := Lib.hid hl
  have HB0 := Lib.hid ((Below.refl w.heap.size w).alloc (Nat.le_refl _) onlyObj)
  have HM := Lib.hid (only_wl w)
  have E1 := Lib.hid (fdV_some hf)
  clear hl hf
  go_enter Tryd.func10, Tryd.ntmps10
  go_wp2_with fail
  refine (find_any l w.heap.size 0 2 onlysL _ HL.out (len_of (by decide)) (by decide) (by simp) HM.out).mono ?_
  rintro e w1 ⟨rfl, hb⟩
  have HBw1 := Lib.hid (HB0.out.trans (hb.mono HB0.out.size))
  clear hb
  rw [E1.out]
  go_wp2_with fail
  go_ret2
  exact ⟨rfl, HBw1.out.alloc HBw1.out.size _⟩
theorem year_1 (l : List UInt8) (n : Int) (w : World) (hl : l.length ≤ 1000) (hf : fd (l.map low) onlysL = some 1) :
    Calls Tryd.prog 10 #[.string ⟨l.toArray⟩, .int .i64 n] w fun e w' => e = .returned (.tuple #[.int .i64 1048576, .int .i64 0]) ∧ Below w.heap.size w w' := by
  have HL := Lib.hid hl
  have HB0 := Lib.hid ((Below.refl w.heap.size w).alloc (Nat.le_refl _) onlyObj)
  have HM := Lib.hid (only_wl w)
  have E1 := Lib.hid (fdV_some hf)
  clear hl hf
  go_enter Tryd.func10, Tryd.ntmps10
  go_wp2_with fail
  refine (find_any l w.heap.size 0 2 onlysL _ HL.out (len_of (by decide)) (by decide) (by simp) HM.out).mono ?_
  rintro e w1 ⟨rfl, hb⟩
  have HBw1 := Lib.hid (HB0.out.trans (hb.mono HB0.out.size))
  clear hb
  rw [E1.out]
  go_wp2_with fail
  go_ret2
  exact ⟨rfl, HBw1.out.alloc HBw1.out.size _⟩
theorem x1 : upV 1 (([74, 117, 110] : List UInt8).map low) monthsL = .tuple #[.int .i64 6, .int .i64 0] := upV_some (i := 5) (by decide +kernel)
theorem x2 : upV 1 (([106, 117] : List UInt8).map low) monthsL = .tuple #[.int .i64 0, .int .i64 13] := upV_none (by decide +kernel)
theorem x3 : upV 1 (([82] : List UInt8).map low) kindsL = .tuple #[.int .i64 1, .int .i64 0] := upV_some (i := 0) (by decide +kernel)
theorem x4 : fd (([109, 97, 120] : List UInt8).map low) onlysL = some 1 := by decide +kernel
theorem awake_any (w : World) (hM : Mon w) :
    Calls Tryd.prog 9 #[] w fun e w' => e = .returned (.bool true) ∧ Below w.heap.size w w' := by
  have HM := Lib.hid hM
  have HBw := Lib.hid (Below.refl w.heap.size w)
  have E1 := Lib.hid x1
  have E2 := Lib.hid x2
  have E3 := Lib.hid x3
  clear hM
  go_enter Tryd.func9, Tryd.ntmps9
  go_wp2_with fail
  refine (month_any [74, 117, 110] _ HM.out (by decide)).mono ?_
  rintro e w1 ⟨rfl, hb⟩
  have HBw1 := Lib.hid (HBw.out.trans (hb.mono HBw.out.size))
  clear hb
  rw [E1.out]
  go_wp2_with fail
  refine (month_any [106, 117] _ (HM.out.below HBw1.out) (by decide)).mono ?_
  rintro e w2 ⟨rfl, hb⟩
  have HBw2 := Lib.hid (HBw1.out.trans (hb.mono HBw1.out.size))
  clear hb
  rw [E2.out]
  go_wp2_with fail
  refine (kind_any [82] _ (by decide)).mono ?_
  rintro e w3 ⟨rfl, hb⟩
  have HBw3 := Lib.hid (HBw2.out.trans (hb.mono HBw2.out.size))
  clear hb
  rw [E3.out]
  go_wp2_with fail
  refine (year_1 [109, 97, 120] 1990 _ (by decide) x4).mono ?_
  rintro e w4 ⟨rfl, hb⟩
  have HBw4 := Lib.hid (HBw3.out.trans (hb.mono HBw3.out.size))
  clear hb
  go_wp2_with fail
  go_ret
  exact ⟨rfl, HBw4.out⟩
end Go.Proofs.YtcfcfoiphadmkaaDoor
