/-
  THE LAW NumRound, walked.
-/
import Derived.Test.YtnbgmnjmandolaaSlArg
import Derived.Test.YtnbgmnjmandolaaNumParts
namespace Go.Proofs.Ytnbgmnjmandolaa.numRound
open Go Go.RowKit NumM

theorem fits_fdivE (a b : Int) (ha : Fits a) (h0 : b ≠ 0) (h : ¬ (b = -1 ∧ a = -9223372036854775808)) : Fits (a.fdiv b) := by
  by_cases h1 : b = -1
  · subst h1
    have := (Int.fdiv_fmod_unique' (a := a) (r := 0) (q := -a) (b := -1) (by omega)).2 ⟨by omega, by omega, by omega⟩
    rw [this.1]; unfold Fits at *; omega
  · exact fits_fdiv a b ha h0 h1
theorem div_ok (a b : Int) (w : World) (ha : Fits a) (h0 : b ≠ 0) (h : ¬ (b = -1 ∧ a = -9223372036854775808)) :
    Calls Try.prog 8 #[.int .i64 a, .int .i64 b] w fun e w' => e = .returned (.tuple #[.int .i64 (a.fdiv b), .int .i64 0]) ∧ w = w' := by
  by_cases h1 : b = -1
  · subst h1; exact div_neg a w ha (fun h2 => h ⟨rfl, h2⟩)
  · exact div_plain a b w ha h0 h1
set_option maxRecDepth 100000 in
set_option maxHeartbeats 4000000 in
theorem zero (a : Int) (w : World) (ha : Fits a) : Calls Try.prog 6 #[.int .i64 a, .int .i64 0] w (One w) := by
  go_enter Try.func6, Try.ntmps6
  go_wp2_with fail
  refine (div_zero a 0 _ rfl).mono ?_
  rintro e w' ⟨rfl, rfl⟩
  go_wp2_with fail
  refine (mod_zero a 0 _ rfl).mono ?_
  rintro e w' ⟨rfl, rfl⟩
  go_wp2_with fail
  refine (add_two a 0 _ ha (by decide)).mono ?_
  rintro e w1 ⟨rfl, hb1⟩
  have HB1 := Lib.hid hb1
  clear hb1
  go_wp2_with fail
  refine (awake_any _).mono ?_
  rintro e w' ⟨rfl, rfl⟩
  go_wp2_with fail
  go_ret
  exact ⟨rfl, HB1.out⟩
set_option maxRecDepth 100000 in
set_option maxHeartbeats 4000000 in
theorem over (w : World) : Calls Try.prog 6 #[.int .i64 (-9223372036854775808), .int .i64 (-1)] w (One w) := by
  have e1 := Lib.hid (show (-9223372036854775808 : Int).fmod (-1) = 0 from by decide)
  have n1 : ¬ Fits (-9223372036854775808 + -1) := by decide
  have n2 : ¬ Fits (-9223372036854775808 * -1) := by decide
  have N1 := Lib.hid n1
  have N2 := Lib.hid n2
  clear n1 n2
  go_enter Try.func6, Try.ntmps6
  go_wp2_with fail
  refine (div_over _).mono ?_
  rintro e w' ⟨rfl, rfl⟩
  go_wp2_with fail
  refine (mod_plain _ _ _ (by decide) (by decide) (by decide)).mono ?_
  rintro e w' ⟨rfl, rfl⟩
  rw [e1.out]
  go_wp2_with fail
  refine (add_two _ _ _ (by decide) (by decide)).mono ?_
  rintro e w1 ⟨rfl, hb1⟩
  have HB1 := Lib.hid hb1
  clear hb1
  rw [nn_not N1.out, ee_not N1.out]
  go_wp2_with fail
  refine (mul_two _ _ _ (by decide) (by decide)).mono ?_
  rintro e w' ⟨rfl, rfl⟩
  rw [nn_not N2.out, ee_not N2.out]
  go_wp2_with fail
  refine (awake_any _).mono ?_
  rintro e w' ⟨rfl, rfl⟩
  go_wp2_with fail
  go_ret
  exact ⟨rfl, HB1.out⟩
set_option maxRecDepth 100000 in
set_option maxHeartbeats 4000000 in
theorem walk_ff (a b q r : Int) (w : World) (h0 : (b == 0) = false) (n : Int)
    (hD : ∀ w, Calls Try.prog 8 #[.int .i64 a, .int .i64 b] w fun e w' => e = .returned (.tuple #[.int .i64 q, .int .i64 0]) ∧ w = w')
    (hM : ∀ w, Calls Try.prog 9 #[.int .i64 a, .int .i64 b] w fun e w' => e = .returned (.tuple #[.int .i64 r, .int .i64 0]) ∧ w = w')
    (hA : ∀ w, Calls Try.prog 14 #[.int .i64 a, .int .i64 b] w fun e w' => e = .returned (.tuple #[.int .i64 n, .int .i64 11]) ∧ Below w.heap.size w w')
    (hP : ∀ w, Calls Try.prog 16 #[.int .i64 a, .int .i64 b] w fun e w' => e = .returned (.tuple #[.int .i64 0, .int .i64 11]) ∧ w = w') :
    Calls Try.prog 6 #[.int .i64 a, .int .i64 b] w (One w) := by
  have HD := Lib.hid hD
  have HM := Lib.hid hM
  have HA := Lib.hid hA
  clear hD hM hA
  have HP := Lib.hid hP
  clear hP
  go_enter Try.func6, Try.ntmps6
  go_wp2_with fail
  refine (HD.out _).mono ?_
  rintro e w' ⟨rfl, rfl⟩
  go_wp2_with fail
  refine (HM.out _).mono ?_
  rintro e w' ⟨rfl, rfl⟩
  go_wp2_with fail
  refine (HA.out _).mono ?_
  rintro e w1 ⟨rfl, hb1⟩
  have HB1 := Lib.hid hb1
  clear hb1
  go_wp2_with fail
  refine (HP.out _).mono ?_
  rintro e w' ⟨rfl, rfl⟩
  go_wp2_with fail
  refine (awake_any _).mono ?_
  rintro e w' ⟨rfl, rfl⟩
  go_wp2_with fail
  go_ret
  exact ⟨rfl, HB1.out⟩
set_option maxRecDepth 100000 in
set_option maxHeartbeats 4000000 in
theorem walk_ft (a b q r : Int) (w : World) (h0 : (b == 0) = false) (n : Int)
    (hD : ∀ w, Calls Try.prog 8 #[.int .i64 a, .int .i64 b] w fun e w' => e = .returned (.tuple #[.int .i64 q, .int .i64 0]) ∧ w = w')
    (hM : ∀ w, Calls Try.prog 9 #[.int .i64 a, .int .i64 b] w fun e w' => e = .returned (.tuple #[.int .i64 r, .int .i64 0]) ∧ w = w')
    (hA : ∀ w, Calls Try.prog 14 #[.int .i64 a, .int .i64 b] w fun e w' => e = .returned (.tuple #[.int .i64 n, .int .i64 11]) ∧ Below w.heap.size w w')
    (m : Int) (hP : ∀ w, Calls Try.prog 16 #[.int .i64 a, .int .i64 b] w fun e w' => e = .returned (.tuple #[.int .i64 m, .int .i64 0]) ∧ w = w')
    (hE : ∀ w, Calls Try.prog 8 #[.int .i64 m, .int .i64 b] w fun e w' => e = .returned (.tuple #[.int .i64 a, .int .i64 0]) ∧ w = w')
    (hF : ∀ w, Calls Try.prog 9 #[.int .i64 m, .int .i64 b] w fun e w' => e = .returned (.tuple #[.int .i64 0, .int .i64 0]) ∧ w = w') :
    Calls Try.prog 6 #[.int .i64 a, .int .i64 b] w (One w) := by
  have HD := Lib.hid hD
  have HM := Lib.hid hM
  have HA := Lib.hid hA
  clear hD hM hA
  have HP := Lib.hid hP
  have HE := Lib.hid hE
  have HF := Lib.hid hF
  clear hP hE hF
  go_enter Try.func6, Try.ntmps6
  go_wp2_with fail
  refine (HD.out _).mono ?_
  rintro e w' ⟨rfl, rfl⟩
  go_wp2_with fail
  refine (HM.out _).mono ?_
  rintro e w' ⟨rfl, rfl⟩
  go_wp2_with fail
  refine (HA.out _).mono ?_
  rintro e w1 ⟨rfl, hb1⟩
  have HB1 := Lib.hid hb1
  clear hb1
  go_wp2_with fail
  refine (HP.out _).mono ?_
  rintro e w' ⟨rfl, rfl⟩
  go_wp2_with fail
  refine (HE.out _).mono ?_
  rintro e w' ⟨rfl, rfl⟩
  go_wp2_with fail
  refine (HF.out _).mono ?_
  rintro e w' ⟨rfl, rfl⟩
  go_wp2_with fail
  refine (awake_any _).mono ?_
  rintro e w' ⟨rfl, rfl⟩
  go_wp2_with fail
  go_ret
  exact ⟨rfl, HB1.out⟩
set_option maxRecDepth 100000 in
set_option maxHeartbeats 4000000 in
theorem walk_tf (a b q r : Int) (w : World) (h0 : (b == 0) = false) (hq : -9223372036854775808 ≤ q + 1 ∧ q + 1 ≤ 9223372036854775807) (n : Int)
    (hD : ∀ w, Calls Try.prog 8 #[.int .i64 a, .int .i64 b] w fun e w' => e = .returned (.tuple #[.int .i64 q, .int .i64 0]) ∧ w = w')
    (hM : ∀ w, Calls Try.prog 9 #[.int .i64 a, .int .i64 b] w fun e w' => e = .returned (.tuple #[.int .i64 r, .int .i64 0]) ∧ w = w')
    (hA : ∀ w, Calls Try.prog 14 #[.int .i64 a, .int .i64 b] w fun e w' => e = .returned (.tuple #[.int .i64 n, .int .i64 0]) ∧ Below w.heap.size w w')
    (hD2 : ∀ w, Calls Try.prog 8 #[.int .i64 n, .int .i64 b] w fun e w' => e = .returned (.tuple #[.int .i64 (q + 1), .int .i64 0]) ∧ w = w')
    (hM2 : ∀ w, Calls Try.prog 9 #[.int .i64 n, .int .i64 b] w fun e w' => e = .returned (.tuple #[.int .i64 r, .int .i64 0]) ∧ w = w')
    (hP : ∀ w, Calls Try.prog 16 #[.int .i64 a, .int .i64 b] w fun e w' => e = .returned (.tuple #[.int .i64 0, .int .i64 11]) ∧ w = w') :
    Calls Try.prog 6 #[.int .i64 a, .int .i64 b] w (One w) := by
  have HD := Lib.hid hD
  have HM := Lib.hid hM
  have HA := Lib.hid hA
  clear hD hM hA
  have HD2 := Lib.hid hD2
  have HM2 := Lib.hid hM2
  clear hD2 hM2
  have HP := Lib.hid hP
  clear hP
  go_enter Try.func6, Try.ntmps6
  go_wp2_with fail
  refine (HD.out _).mono ?_
  rintro e w' ⟨rfl, rfl⟩
  go_wp2_with fail
  refine (HM.out _).mono ?_
  rintro e w' ⟨rfl, rfl⟩
  go_wp2_with fail
  refine (HA.out _).mono ?_
  rintro e w1 ⟨rfl, hb1⟩
  have HB1 := Lib.hid hb1
  clear hb1
  go_wp2_with fail
  refine (HD2.out _).mono ?_
  rintro e w' ⟨rfl, rfl⟩
  go_wp2_with fail
  refine (HM2.out _).mono ?_
  rintro e w' ⟨rfl, rfl⟩
  go_wp2_with fail
  refine (HP.out _).mono ?_
  rintro e w' ⟨rfl, rfl⟩
  go_wp2_with fail
  refine (awake_any _).mono ?_
  rintro e w' ⟨rfl, rfl⟩
  go_wp2_with fail
  go_ret
  exact ⟨rfl, HB1.out⟩
set_option maxRecDepth 100000 in
set_option maxHeartbeats 4000000 in
theorem walk_tt (a b q r : Int) (w : World) (h0 : (b == 0) = false) (hq : -9223372036854775808 ≤ q + 1 ∧ q + 1 ≤ 9223372036854775807) (n : Int)
    (hD : ∀ w, Calls Try.prog 8 #[.int .i64 a, .int .i64 b] w fun e w' => e = .returned (.tuple #[.int .i64 q, .int .i64 0]) ∧ w = w')
    (hM : ∀ w, Calls Try.prog 9 #[.int .i64 a, .int .i64 b] w fun e w' => e = .returned (.tuple #[.int .i64 r, .int .i64 0]) ∧ w = w')
    (hA : ∀ w, Calls Try.prog 14 #[.int .i64 a, .int .i64 b] w fun e w' => e = .returned (.tuple #[.int .i64 n, .int .i64 0]) ∧ Below w.heap.size w w')
    (hD2 : ∀ w, Calls Try.prog 8 #[.int .i64 n, .int .i64 b] w fun e w' => e = .returned (.tuple #[.int .i64 (q + 1), .int .i64 0]) ∧ w = w')
    (hM2 : ∀ w, Calls Try.prog 9 #[.int .i64 n, .int .i64 b] w fun e w' => e = .returned (.tuple #[.int .i64 r, .int .i64 0]) ∧ w = w')
    (m : Int) (hP : ∀ w, Calls Try.prog 16 #[.int .i64 a, .int .i64 b] w fun e w' => e = .returned (.tuple #[.int .i64 m, .int .i64 0]) ∧ w = w')
    (hE : ∀ w, Calls Try.prog 8 #[.int .i64 m, .int .i64 b] w fun e w' => e = .returned (.tuple #[.int .i64 a, .int .i64 0]) ∧ w = w')
    (hF : ∀ w, Calls Try.prog 9 #[.int .i64 m, .int .i64 b] w fun e w' => e = .returned (.tuple #[.int .i64 0, .int .i64 0]) ∧ w = w') :
    Calls Try.prog 6 #[.int .i64 a, .int .i64 b] w (One w) := by
  have HD := Lib.hid hD
  have HM := Lib.hid hM
  have HA := Lib.hid hA
  clear hD hM hA
  have HD2 := Lib.hid hD2
  have HM2 := Lib.hid hM2
  clear hD2 hM2
  have HP := Lib.hid hP
  have HE := Lib.hid hE
  have HF := Lib.hid hF
  clear hP hE hF
  go_enter Try.func6, Try.ntmps6
  go_wp2_with fail
  refine (HD.out _).mono ?_
  rintro e w' ⟨rfl, rfl⟩
  go_wp2_with fail
  refine (HM.out _).mono ?_
  rintro e w' ⟨rfl, rfl⟩
  go_wp2_with fail
  refine (HA.out _).mono ?_
  rintro e w1 ⟨rfl, hb1⟩
  have HB1 := Lib.hid hb1
  clear hb1
  go_wp2_with fail
  refine (HD2.out _).mono ?_
  rintro e w' ⟨rfl, rfl⟩
  go_wp2_with fail
  refine (HM2.out _).mono ?_
  rintro e w' ⟨rfl, rfl⟩
  go_wp2_with fail
  refine (HP.out _).mono ?_
  rintro e w' ⟨rfl, rfl⟩
  go_wp2_with fail
  refine (HE.out _).mono ?_
  rintro e w' ⟨rfl, rfl⟩
  go_wp2_with fail
  refine (HF.out _).mono ?_
  rintro e w' ⟨rfl, rfl⟩
  go_wp2_with fail
  refine (awake_any _).mono ?_
  rintro e w' ⟨rfl, rfl⟩
  go_wp2_with fail
  go_ret
  exact ⟨rfl, HB1.out⟩
set_option maxRecDepth 100000 in
set_option maxHeartbeats 4000000 in
theorem walk_nt (a b q r : Int) (w : World) (h0 : (b == 0) = false) (n : Int)
    (hD : ∀ w, Calls Try.prog 8 #[.int .i64 a, .int .i64 b] w fun e w' => e = .returned (.tuple #[.int .i64 q, .int .i64 0]) ∧ w = w')
    (hM : ∀ w, Calls Try.prog 9 #[.int .i64 a, .int .i64 b] w fun e w' => e = .returned (.tuple #[.int .i64 r, .int .i64 0]) ∧ w = w')
    (hA : ∀ w, Calls Try.prog 14 #[.int .i64 a, .int .i64 b] w fun e w' => e = .returned (.tuple #[.int .i64 n, .int .i64 0]) ∧ Below w.heap.size w w')
    (hD2 : ∀ w, Calls Try.prog 8 #[.int .i64 n, .int .i64 b] w fun e w' => e = .returned (.tuple #[.int .i64 0, .int .i64 11]) ∧ w = w')
    (hM2 : ∀ w, Calls Try.prog 9 #[.int .i64 n, .int .i64 b] w fun e w' => e = .returned (.tuple #[.int .i64 r, .int .i64 0]) ∧ w = w')
    (m : Int) (hP : ∀ w, Calls Try.prog 16 #[.int .i64 a, .int .i64 b] w fun e w' => e = .returned (.tuple #[.int .i64 m, .int .i64 0]) ∧ w = w')
    (hE : ∀ w, Calls Try.prog 8 #[.int .i64 m, .int .i64 b] w fun e w' => e = .returned (.tuple #[.int .i64 a, .int .i64 0]) ∧ w = w')
    (hF : ∀ w, Calls Try.prog 9 #[.int .i64 m, .int .i64 b] w fun e w' => e = .returned (.tuple #[.int .i64 0, .int .i64 0]) ∧ w = w') :
    Calls Try.prog 6 #[.int .i64 a, .int .i64 b] w (One w) := by
  have HD := Lib.hid hD
  have HM := Lib.hid hM
  have HA := Lib.hid hA
  clear hD hM hA
  have HD2 := Lib.hid hD2
  have HM2 := Lib.hid hM2
  clear hD2 hM2
  have HP := Lib.hid hP
  have HE := Lib.hid hE
  have HF := Lib.hid hF
  clear hP hE hF
  go_enter Try.func6, Try.ntmps6
  go_wp2_with fail
  refine (HD.out _).mono ?_
  rintro e w' ⟨rfl, rfl⟩
  go_wp2_with fail
  refine (HM.out _).mono ?_
  rintro e w' ⟨rfl, rfl⟩
  go_wp2_with fail
  refine (HA.out _).mono ?_
  rintro e w1 ⟨rfl, hb1⟩
  have HB1 := Lib.hid hb1
  clear hb1
  go_wp2_with fail
  refine (HD2.out _).mono ?_
  rintro e w' ⟨rfl, rfl⟩
  go_wp2_with fail
  refine (HM2.out _).mono ?_
  rintro e w' ⟨rfl, rfl⟩
  go_wp2_with fail
  refine (HP.out _).mono ?_
  rintro e w' ⟨rfl, rfl⟩
  go_wp2_with fail
  refine (HE.out _).mono ?_
  rintro e w' ⟨rfl, rfl⟩
  go_wp2_with fail
  refine (HF.out _).mono ?_
  rintro e w' ⟨rfl, rfl⟩
  go_wp2_with fail
  refine (awake_any _).mono ?_
  rintro e w' ⟨rfl, rfl⟩
  go_wp2_with fail
  go_ret
  exact ⟨rfl, HB1.out⟩
theorem walk (a b : Int) (ha : Fits a) (hb : Fits b) (w : World) : Calls Try.prog 6 #[.int .i64 a, .int .i64 b] w (One w) := by
  by_cases h0 : b = 0
  · subst h0; exact zero a w ha
  · have h0' : (b == 0) = false := by simpa using h0
    by_cases hE : b = -1 ∧ a = -9223372036854775808
    · obtain ⟨rfl, rfl⟩ := hE
      exact over w
    · have hD := fun w => div_ok a b w ha h0 hE
      have hM := fun w => mod_plain a b w ha hb h0
      have hA := fun w => add_two a b w ha hb
      have hP := fun w => mul_two a b w ha hb
      have e1 : (a + b).fdiv b = a.fdiv b + 1 := by have := Int.add_mul_fdiv_right a 1 h0; rwa [Int.one_mul] at this
      have e2 : (a + b).fmod b = a.fmod b := Int.add_fmod_right a b
      have e3 : (a * b).fdiv b = a := Int.mul_fdiv_cancel a h0
      have e4 : (a * b).fmod b = 0 := Int.mul_fmod_left a b
      have hmE : Fits (a * b) → ¬ (b = -1 ∧ a * b = -9223372036854775808) := by
        rintro _ ⟨rfl, h⟩
        unfold Fits at ha
        omega
      by_cases hG : Fits (a + b)
      · rw [nn_fits hG, ee_fits hG] at hA
        by_cases hH : b = -1 ∧ a + b = -9223372036854775808
        · obtain ⟨rfl, h2⟩ := hH
          obtain rfl : a = -9223372036854775807 := by omega
          have hm : Fits (-9223372036854775807 * -1) := by decide
          rw [nn_fits hm, ee_fits hm] at hP
          refine walk_nt _ _ _ _ w h0' _ hD hM hA (fun w => ?_) (fun w => ?_) _ hP (fun w => ?_) (fun w => ?_)
          · exact div_over w
          · have := mod_plain (-9223372036854775807 + -1) (-1) w hG hb h0; rwa [e2] at this
          · have := div_ok (-9223372036854775807 * -1) (-1) w hm h0 (hmE hm); rwa [e3] at this
          · have := mod_plain (-9223372036854775807 * -1) (-1) w hm hb h0; rwa [e4] at this
        · have hD2 := fun w => div_ok (a + b) b w hG h0 hH
          have hM2 := fun w => mod_plain (a + b) b w hG hb h0
          have hq := fits_fdivE (a + b) b hG h0 hH
          rw [e1] at hD2 hq
          rw [e2] at hM2
          unfold Fits at hq
          by_cases hm : Fits (a * b)
          · rw [nn_fits hm, ee_fits hm] at hP
            refine walk_tt a b _ _ w h0' hq _ hD hM hA hD2 hM2 _ hP (fun w => ?_) (fun w => ?_)
            · have := div_ok (a * b) b w hm h0 (hmE hm); rwa [e3] at this
            · have := mod_plain (a * b) b w hm hb h0; rwa [e4] at this
          · rw [nn_not hm, ee_not hm] at hP
            exact walk_tf a b _ _ w h0' hq _ hD hM hA hD2 hM2 hP
      · rw [nn_not hG, ee_not hG] at hA
        by_cases hm : Fits (a * b)
        · rw [nn_fits hm, ee_fits hm] at hP
          refine walk_ft a b _ _ w h0' _ hD hM hA _ hP (fun w => ?_) (fun w => ?_)
          · have := div_ok (a * b) b w hm h0 (hmE hm); rwa [e3] at this
          · have := mod_plain (a * b) b w hm hb h0; rwa [e4] at this
        · rw [nn_not hm, ee_not hm] at hP
          exact walk_ff a b _ _ w h0' _ hD hM hA hP
end Go.Proofs.Ytnbgmnjmandolaa.numRound
