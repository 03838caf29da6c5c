/-
  THE WALKS of the layer num: Sub, Mul, Div, Mod: each function's contract.
-/
import Derived.Test.YtnbgmnjmandolaaProg
import Derived.Test.YtnbgmnjmandolaaNumMath
import Derived.WalkKit
import Derived.WalkLawsBesides
import Derived.Outline
import Derived.Lib.Hide
import Derived.Deep.QuietTactic
import Derived.BigQuiet
namespace Go.Proofs.Ytnbgmnjmandolaa
open Go Go.RowKit NumM
theorem tup2 {k k' : IntKind} {x x' y y' : Int} (h1 : x = x') (h2 : y = y') : Ending.returned (.tuple #[.int k x, .int k' y]) = .returned (.tuple #[.int k x', .int k' y']) := by rw [h1, h2]

theorem sub_fits (a b : Int) (w : World) (h : Fits (a - b)) :
    Calls Try.prog 15 #[.int .i64 a, .int .i64 b] w fun e w' => e = .returned (.tuple #[.int .i64 (a - b), .int .i64 0]) ∧ w = w' := by
  unfold Fits at *
  by_cases hlt : a < b
  · have h2 : a - b < 0 := by omega
    go_enter Try.func15, Try.ntmps15
    go_wp2
    go_ret2
    exact ⟨rfl, rfl⟩
  · have h2 : ¬ a - b < 0 := by omega
    go_enter Try.func15, Try.ntmps15
    go_wp2
    go_ret2
    exact ⟨rfl, rfl⟩
theorem sub_over (a b : Int) (w : World) (ha : Fits a) (hb : Fits b) (h : ¬ Fits (a - b)) :
    Calls Try.prog 15 #[.int .i64 a, .int .i64 b] w fun e w' => e = .returned (.tuple #[.int .i64 0, .int .i64 11]) ∧ w = w' := by
  unfold Fits at *
  by_cases hlt : a < b
  · have h2 : ¬ wrap64 (a - b) < 0 := by unfold wrap64; omega
    go_enter Try.func15, Try.ntmps15
    go_wp2
    go_ret2
    exact ⟨rfl, rfl⟩
  · have h2 : wrap64 (a - b) < 0 := by unfold wrap64; omega
    go_enter Try.func15, Try.ntmps15
    go_wp2
    go_ret2
    exact ⟨rfl, rfl⟩
theorem mul_zero (a b : Int) (w : World) (h : a = 0 ∨ b = 0) :
    Calls Try.prog 16 #[.int .i64 a, .int .i64 b] w fun e w' => e = .returned (.tuple #[.int .i64 0, .int .i64 0]) ∧ w = w' := by
  by_cases ha : a = 0
  · subst ha
    go_enter Try.func16, Try.ntmps16
    go_wp2
    go_ret2
    exact ⟨rfl, rfl⟩
  · have hb : b = 0 := by omega
    subst hb
    have ha' : (a == 0) = false := by simpa using ha
    go_enter Try.func16, Try.ntmps16
    go_wp2
    go_ret2
    exact ⟨rfl, rfl⟩
/-- what Mul answers -/
def mulV (a b : Int) : Value := if Fits (a * b) then .tuple #[.int .i64 (a * b), .int .i64 0] else .tuple #[.int .i64 0, .int .i64 11]
theorem ret_eq {a b : Value} (h : a = b) : Ending.returned a = .returned b := by rw [h]
theorem mul_any (a b : Int) (w : World) (ha : Fits a) (hb : Fits b) :
    Calls Try.prog 16 #[.int .i64 a, .int .i64 b] w fun e w' => e = .returned (mulV a b) ∧ w = w' := by
  by_cases h0 : a = 0 ∨ b = 0
  · have e : a * b = 0 := by rcases h0 with rfl | rfl <;> simp
    refine (mul_zero a b w h0).mono ?_
    rintro e1 w' ⟨rfl, rfl⟩
    exact ⟨ret_eq (by unfold mulV; rw [e]; rfl), rfl⟩
  · have ha0 : (a == 0) = false := by simp; omega
    have hb0 : (b == 0) = false := by simp; omega
    go_enter Try.func16, Try.ntmps16
    go_wp2
    · have h2 : b = -1 := by assumption
      have h3 : (wrap64 (-a) == a) = true := by assumption
      go_ret2
      refine ⟨ret_eq ?_, rfl⟩
      have h3' : wrap64 (-a) = a := by simpa using h3
      unfold mulV
      rw [if_neg]
      · rfl
      · subst h2; unfold Fits wrap64 at *; omega
    · have h2 : b = -1 := by assumption
      have h3 : (wrap64 (-a) == a) = false := by assumption
      go_ret2
      refine ⟨ret_eq ?_, rfl⟩
      have h3' : ¬ wrap64 (-a) = a := by simpa using h3
      subst h2
      have hf : Fits (a * -1) := by unfold Fits wrap64 at *; omega
      unfold mulV
      rw [if_pos hf, ← wrap_in _ hf, show a * -1 = -a from by omega]
      rfl
    · have h1 : wrap64 ((wrap64 (a * b)).tdiv b) = a := by assumption
      have h2 : ¬ b = -1 := by assumption
      go_ret2
      refine ⟨ret_eq ?_, rfl⟩
      have hf : Fits (a * b) := Classical.byContradiction fun hn => h2 (mul_test_not a b ha hb hn h1).1
      unfold mulV
      rw [if_pos hf]
      show Value.tuple #[.int .i64 (wrap64 (a * b)), _] = _
      rw [wrap_in _ hf]
      rfl
    · have h1 : ¬ wrap64 ((wrap64 (a * b)).tdiv b) = a := by assumption
      go_ret2
      refine ⟨ret_eq ?_, rfl⟩
      have hf : ¬ Fits (a * b) := fun hf => h1 (by rw [wrap_in _ hf]; exact (mul_test_fits a b ha (by omega) hf).1)
      unfold mulV
      rw [if_neg hf]
      rfl
theorem div_zero (a b : Int) (w : World) (h0 : b = 0) :
    Calls Try.prog 8 #[.int .i64 a, .int .i64 b] w fun e w' => e = .returned (.tuple #[.int .i64 0, .int .i64 1]) ∧ w = w' := by
  subst h0
  go_enter Try.func8, Try.ntmps8
  go_wp2
  go_ret2
  exact ⟨rfl, rfl⟩
theorem div_over (w : World) :
    Calls Try.prog 8 #[.int .i64 (-9223372036854775808), .int .i64 (-1)] w fun e w' => e = .returned (.tuple #[.int .i64 0, .int .i64 11]) ∧ w = w' := by
  go_enter Try.func8, Try.ntmps8
  go_wp2_with (go_at_call 15; refine (sub_over _ _ _ (by decide) (by decide) (by decide)).mono ?_; rintro e w' ⟨rfl, rfl⟩)
  go_ret2
  exact ⟨rfl, rfl⟩
theorem div_neg (a : Int) (w : World) (ha : Fits a) (h : a ≠ -9223372036854775808) :
    Calls Try.prog 8 #[.int .i64 a, .int .i64 (-1)] w fun e w' => e = .returned (.tuple #[.int .i64 (a.fdiv (-1)), .int .i64 0]) ∧ w = w' := by
  have hf : Fits (0 - a) := by unfold Fits at *; omega
  go_enter Try.func8, Try.ntmps8
  go_wp2_with (go_at_call 15; refine (sub_fits _ _ _ hf).mono ?_; rintro e w' ⟨rfl, rfl⟩)
  go_ret2
  exact ⟨tup2 (by
    have := (Int.fdiv_fmod_unique' (a := a) (r := 0) (q := -a) (b := -1) (by omega)).2 ⟨by omega, by omega, by omega⟩
    rw [this.1]) rfl, rfl⟩
theorem div_plain (a b : Int) (w : World) (ha : Fits a) (h0 : b ≠ 0) (h1 : b ≠ -1) :
    Calls Try.prog 8 #[.int .i64 a, .int .i64 b] w fun e w' => e = .returned (.tuple #[.int .i64 (a.fdiv b), .int .i64 0]) ∧ w = w' := by
  have h0' : (b == 0) = false := by simpa using h0
  have h1' : (b == -1) = false := by simpa using h1
  have hf := fits_tdiv a b ha h0 h1
  have e1 : wrap64 (a.tdiv b) = a.tdiv b := wrap_in _ hf
  have E1 := Lib.hid e1
  clear e1
  by_cases hm : a.tmod b = 0
  · have hm' : (a.tmod b != 0) = false := by simpa using hm
    have E := Lib.hid (dm_same a b h0 hm).1
    clear hm hf
    go_enter Try.func8, Try.ntmps8
    go_wp2
    go_ret2
    exact ⟨tup2 (E1.out.trans E.out) rfl, rfl⟩
  · have hm' : (a.tmod b != 0) = true := by simpa using hm
    have hh := half_tdiv a b ha h1 hm
    by_cases hs : a < 0 ↔ b < 0
    · have hs' : (decide (a < 0) == decide (b < 0)) = true := by simpa using hs
      have E := Lib.hid (dm_up a b h0 hs).1
      clear hm hf hs hh
      go_enter Try.func8, Try.ntmps8
      go_wp2
      go_ret2
      exact ⟨tup2 (E1.out.trans E.out) rfl, rfl⟩
    · have hs' : (decide (a < 0) == decide (b < 0)) = false := by simpa using hs
      have E := Lib.hid (dm_down a b h0 hm hs).1
      clear hm hf hs
      go_enter Try.func8, Try.ntmps8
      go_wp2
      go_ret2
      exact ⟨tup2 E.out rfl, rfl⟩
theorem mod_zero (a b : Int) (w : World) (h0 : b = 0) :
    Calls Try.prog 9 #[.int .i64 a, .int .i64 b] w fun e w' => e = .returned (.tuple #[.int .i64 0, .int .i64 1]) ∧ w = w' := by
  subst h0
  go_enter Try.func9, Try.ntmps9
  go_wp2
  go_ret2
  exact ⟨rfl, rfl⟩
theorem mod_plain (a b : Int) (w : World) (ha : Fits a) (hb : Fits b) (h0 : b ≠ 0) :
    Calls Try.prog 9 #[.int .i64 a, .int .i64 b] w fun e w' => e = .returned (.tuple #[.int .i64 (a.fmod b), .int .i64 0]) ∧ w = w' := by
  have h0' : (b == 0) = false := by simpa using h0
  have hf := fits_tmod a b ha
  have hf2 := fits_fmod a b ha hb
  by_cases hm : a.tmod b = 0
  · have hm' : (a.tmod b != 0) = false := by simpa using hm
    have E := Lib.hid (dm_same a b h0 hm).2
    clear hm hf
    go_enter Try.func9, Try.ntmps9
    go_wp2
    go_ret2
    exact ⟨tup2 E.out rfl, rfl⟩
  · have hm' : (a.tmod b != 0) = true := by simpa using hm
    by_cases hs : a < 0 ↔ b < 0
    · have E := Lib.hid (dm_up a b h0 hs).2
      clear hf
      by_cases hs1 : a.tmod b < 0 ↔ b < 0
      · have hs' : (decide (a.tmod b < 0) == decide (b < 0)) = true := by simpa using hs1
        clear hm hs hs1
        go_enter Try.func9, Try.ntmps9
        go_wp2
        go_ret2
        exact ⟨tup2 E.out rfl, rfl⟩
      · have := tmod_sign a b hm
        omega
    · have E := Lib.hid (dm_down a b h0 hm hs).2
      have hg : -9223372036854775808 ≤ a.tmod b + b ∧ a.tmod b + b ≤ 9223372036854775807 := by rw [(dm_down a b h0 hm hs).2]; exact hf2
      by_cases hs1 : a.tmod b < 0 ↔ b < 0
      · have := tmod_sign a b hm
        omega
      · have hs' : (decide (a.tmod b < 0) == decide (b < 0)) = false := by simpa using hs1
        clear hm hs hs1
        go_enter Try.func9, Try.ntmps9
        go_wp2
        go_ret2
        exact ⟨tup2 E.out rfl, rfl⟩
end Go.Proofs.Ytnbgmnjmandolaa
