/-
  THE WALKS of num.Div and num.Mod by a number that is neither nought nor -1.
-/
import Derived.Test.YtmkbfjklhejdnaaDoorProg
import Derived.Test.YtmkbfjklhejdnaaDoorNumMath
import Derived.WalkKit
import Derived.WalkLawsBesides
import Derived.Outline
import Derived.Lib.Hide
import Derived.Deep.QuietTactic
import Derived.BigQuiet
namespace Go.Proofs.YtmkbfjklhejdnaaDoor
open Go Go.RowKit NumM
theorem tup2 {k k' : IntKind} {x x' y y' : Int} (h1 : x = x') (h2 : y = y') : Ending.returned (.tuple #[.int k x, .int k' y]) = .returned (.tuple #[.int k x', .int k' y']) := by rw [h1, h2]

theorem div_plain (a b : Int) (w : World) (ha : Fits a) (h0 : b ≠ 0) (h1 : b ≠ -1) :
    Calls Tryd.prog 63 #[.int .i64 a, .int .i64 b] w fun e w' => e = .returned (.tuple #[.int .i64 (a.fdiv b), .int .i64 0]) ∧ w = w' := by
  have h0' : (b == 0) = false := by simpa using h0
  have h1' : (b == -1) = false := by simpa using h1
  have hf := fits_tdiv a b ha h0 h1
  have e1 : wrap64 (a.tdiv b) = a.tdiv b := wrap_in _ hf
  have E1 := Lib.hid e1
  clear e1
  by_cases hm : a.tmod b = 0
  · have hm' : (a.tmod b != 0) = false := by simpa using hm
    have E := Lib.hid (dm_same a b h0 hm).1
    clear hm hf
    go_enter Tryd.func63, Tryd.ntmps63
    go_wp2
    go_ret2
    exact ⟨tup2 (E1.out.trans E.out) rfl, rfl⟩
  · have hm' : (a.tmod b != 0) = true := by simpa using hm
    have hh := half_tdiv a b ha h1 hm
    by_cases hs : a < 0 ↔ b < 0
    · have hs' : (decide (a < 0) == decide (b < 0)) = true := by simpa using hs
      have E := Lib.hid (dm_up a b h0 hs).1
      clear hm hf hs hh
      go_enter Tryd.func63, Tryd.ntmps63
      go_wp2
      go_ret2
      exact ⟨tup2 (E1.out.trans E.out) rfl, rfl⟩
    · have hs' : (decide (a < 0) == decide (b < 0)) = false := by simpa using hs
      have E := Lib.hid (dm_down a b h0 hm hs).1
      clear hm hf hs
      go_enter Tryd.func63, Tryd.ntmps63
      go_wp2
      go_ret2
      exact ⟨tup2 E.out rfl, rfl⟩
theorem mod_plain (a b : Int) (w : World) (ha : Fits a) (hb : Fits b) (h0 : b ≠ 0) :
    Calls Tryd.prog 39 #[.int .i64 a, .int .i64 b] w fun e w' => e = .returned (.tuple #[.int .i64 (a.fmod b), .int .i64 0]) ∧ w = w' := by
  have h0' : (b == 0) = false := by simpa using h0
  have hf := fits_tmod a b ha
  have hf2 := fits_fmod a b ha hb
  by_cases hm : a.tmod b = 0
  · have hm' : (a.tmod b != 0) = false := by simpa using hm
    have E := Lib.hid (dm_same a b h0 hm).2
    clear hm hf
    go_enter Tryd.func39, Tryd.ntmps39
    go_wp2
    go_ret2
    exact ⟨tup2 E.out rfl, rfl⟩
  · have hm' : (a.tmod b != 0) = true := by simpa using hm
    by_cases hs : a < 0 ↔ b < 0
    · have E := Lib.hid (dm_up a b h0 hs).2
      clear hf
      by_cases hs1 : a.tmod b < 0 ↔ b < 0
      · have hs' : (decide (a.tmod b < 0) == decide (b < 0)) = true := by simpa using hs1
        clear hm hs hs1
        go_enter Tryd.func39, Tryd.ntmps39
        go_wp2
        go_ret2
        exact ⟨tup2 E.out rfl, rfl⟩
      · have := tmod_sign a b hm
        omega
    · have E := Lib.hid (dm_down a b h0 hm hs).2
      have hg : -9223372036854775808 ≤ a.tmod b + b ∧ a.tmod b + b ≤ 9223372036854775807 := by rw [(dm_down a b h0 hm hs).2]; exact hf2
      by_cases hs1 : a.tmod b < 0 ↔ b < 0
      · have := tmod_sign a b hm
        omega
      · have hs' : (decide (a.tmod b < 0) == decide (b < 0)) = false := by simpa using hs1
        clear hm hs hs1
        go_enter Tryd.func39, Tryd.ntmps39
        go_wp2
        go_ret2
        exact ⟨tup2 E.out rfl, rfl⟩
/-- by a number above nought -/
theorem div_pos (a b : Int) (w : World) (ha : Fits a) (h0 : 0 < b) :
    Calls Tryd.prog 63 #[.int .i64 a, .int .i64 b] w fun e w' => e = .returned (.tuple #[.int .i64 (a / b), .int .i64 0]) ∧ w = w' := by
  have := div_plain a b w ha (by omega) (by omega)
  rwa [Int.fdiv_eq_ediv_of_nonneg _ (by omega)] at this
theorem mod_pos (a b : Int) (w : World) (ha : Fits a) (hb : Fits b) (h0 : 0 < b) :
    Calls Tryd.prog 39 #[.int .i64 a, .int .i64 b] w fun e w' => e = .returned (.tuple #[.int .i64 (a % b), .int .i64 0]) ∧ w = w' := by
  have := mod_plain a b w ha hb (by omega)
  rwa [Int.fmod_eq_emod_of_nonneg _ (by omega)] at this
end Go.Proofs.YtmkbfjklhejdnaaDoor
