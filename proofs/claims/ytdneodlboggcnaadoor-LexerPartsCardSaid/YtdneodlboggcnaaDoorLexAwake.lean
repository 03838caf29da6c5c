/-
  THE WALK of the chapter's examples, and of the law LexerWords.
-/
import Derived.Test.YtdneodlboggcnaaDoorTexts
namespace Go.Proofs.YtdneodlboggcnaaDoor
open Go Go.RowKit
/-- a law's end: true, and what was there is as it was -/
def One (w : World) (e : Ending) (w' : World) : Prop := e = .returned (.bool true) ∧ Below w.heap.size w w'
theorem ex1 : lexW [97, 32, 34, 98, 32, 99, 34, 100, 32, 35, 32, 101] = (0, [[97], [98, 32, 99, 100]]) := by decide +kernel
theorem ex2 : lexW [34, 34] = (0, [[]]) := by decide +kernel
theorem ex3 : lexW [34, 97] = (12, []) := by decide +kernel
theorem lit_sl (w : World) (xs : List (List UInt8)) (n : Nat) (hn : xs.length = n) : SL w.heap.size (w.alloc (.cells (strs xs).toArray 9)) (.slice (some ⟨w.heap.size, 0, none⟩) n n) xs := by
  subst hn
  refine ⟨_, _, rfl, .inr ⟨w.heap.size, rfl, Nat.le_refl _, by simp, fun j hj => ?_⟩⟩
  rw [cell_of_row _ w.heap.size j _ _ _ (heap_alloc_new w _)]
  simp [strs, List.getD, hj]
set_option maxRecDepth 100000 in
set_option maxHeartbeats 2000000 in
theorem awake_any (w : World) (hB : Big w) : Calls Tryd.prog 6 #[] w (One w) := by
  have HG := Lib.hid hB
  have HBw := Lib.hid (Below.refl w.heap.size w)
  clear hB
  go_enter Tryd.func6, Tryd.ntmps6
  go_wp2_with fail
  refine (lwords_any [97, 32, 34, 98, 32, 99, 34, 100, 32, 35, 32, 101] _ (by decide) HG.out).mono ?_
  rintro e w1 ⟨vw1, rfl, hsw1, hbw1⟩
  have HSw1 := Lib.hid hsw1
  have HBw1 := Lib.hid (HBw.out.trans (hbw1.mono HBw.out.size))
  have szw1 := hbw1.size
  clear hsw1
  rw [ex1] at HSw1 ⊢
  clear hbw1
  go_wp2_with fail
  refine (lwords_any [34, 34] _ (by decide) (HG.out.below HBw1.out)).mono ?_
  rintro e w2 ⟨vw2, rfl, hsw2, hbw2⟩
  have HSw2 := Lib.hid hsw2
  have HBw2 := Lib.hid (HBw1.out.trans (hbw2.mono HBw1.out.size))
  have szw2 := hbw2.size
  clear hsw2
  rw [ex2] at HSw2 ⊢
  have HSw12 := Lib.hid (HSw1.out.below hbw2)
  clear hbw2
  go_wp2_with fail
  refine (lwords_any [34, 97] _ (by decide) (HG.out.below HBw2.out)).mono ?_
  rintro e w3 ⟨vw3, rfl, hsw3, hbw3⟩
  have HSw3 := Lib.hid hsw3
  have HBw3 := Lib.hid (HBw2.out.trans (hbw3.mono HBw2.out.size))
  have szw3 := hbw3.size
  clear hsw3
  rw [ex3] at HSw3 ⊢
  have HSw13 := Lib.hid (HSw12.out.below hbw3)
  have HSw23 := Lib.hid (HSw2.out.below hbw3)
  clear hbw3
  go_wp2_with fail
  have hL1 := Lib.hid (lit_sl w3 [[97], [98, 32, 99, 100]] 2 rfl)
  have HBa := Lib.hid (HBw3.out.alloc HBw3.out.size (.cells (strs [[97], [98, 32, 99, 100]]).toArray 9))
  have HSw14 := Lib.hid (HSw13.out.below ((Below.refl _ _).alloc (Nat.le_refl _) (.cells (strs [[97], [98, 32, 99, 100]]).toArray 9)))
  have HSw24 := Lib.hid (HSw23.out.below ((Below.refl _ _).alloc (Nat.le_refl _) (.cells (strs [[97], [98, 32, 99, 100]]).toArray 9)))
  refine (texts_any _ HSw14.out hL1.out (by decide) (by decide)).mono ?_
  rintro e w4 ⟨rfl, hb4⟩
  have HB4 := Lib.hid (HBa.out.trans (hb4.mono HBa.out.size))
  have HSw25 := Lib.hid (HSw24.out.below hb4)
  clear hb4
  rw [decide_eq_true rfl]
  go_wp2_with fail
  have hL2 := Lib.hid (lit_sl w4 [[]] 1 rfl)
  have HBb := Lib.hid (HB4.out.alloc HB4.out.size (.cells (strs [[]]).toArray 9))
  have HSw26 := Lib.hid (HSw25.out.below ((Below.refl _ _).alloc (Nat.le_refl _) (.cells (strs [[]]).toArray 9)))
  refine (texts_any _ HSw26.out hL2.out (by decide) (by decide)).mono ?_
  rintro e w5 ⟨rfl, hb5⟩
  have HB5 := Lib.hid (HBb.out.trans (hb5.mono HBb.out.size))
  clear hb5
  rw [decide_eq_true rfl]
  go_wp2_with fail
  go_ret
  exact ⟨rfl, HB5.out⟩
end Go.Proofs.YtdneodlboggcnaaDoor
