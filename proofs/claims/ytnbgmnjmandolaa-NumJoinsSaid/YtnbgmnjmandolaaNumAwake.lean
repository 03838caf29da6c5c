/-
  THE WALK of awake: the chapter's examples hold.
-/
import Derived.Test.YtnbgmnjmandolaaNumWalks
namespace Go.Proofs.Ytnbgmnjmandolaa
open Go Go.RowKit NumM

set_option maxHeartbeats 1000000 in
theorem awake_any (w : World) :
    Calls Try.prog 10 #[] w fun e w' => e = .returned (.bool true) ∧ w = w' := by
  have e1 := Lib.hid (show (-7 : Int).fdiv 2 = -4 from by decide)
  have e2 := Lib.hid (show (-7 : Int).fmod 2 = 1 from by decide)
  have e3 := Lib.hid (show (7 : Int).fmod (-2) = -1 from by decide)
  go_enter Try.func10, Try.ntmps10
  go_wp2_with fail
  refine (div_plain (-7) 2 _ (by decide) (by decide) (by decide)).mono ?_
  rintro e w' ⟨rfl, rfl⟩
  rw [e1.out]
  go_wp2_with fail
  refine (mod_plain (-7) 2 _ (by decide) (by decide) (by decide)).mono ?_
  rintro e w' ⟨rfl, rfl⟩
  rw [e2.out]
  go_wp2_with fail
  refine (mod_plain 7 (-2) _ (by decide) (by decide) (by decide)).mono ?_
  rintro e w' ⟨rfl, rfl⟩
  rw [e3.out]
  go_wp2_with fail
  go_ret
  exact ⟨rfl, rfl⟩
end Go.Proofs.Ytnbgmnjmandolaa
