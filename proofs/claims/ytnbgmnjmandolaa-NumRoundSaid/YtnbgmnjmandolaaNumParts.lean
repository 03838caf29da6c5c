/-
  THE LAW NumParts, walked: whatever the two numbers, it answers true.
-/
import Derived.Test.YtnbgmnjmandolaaRefInt
import Derived.Test.YtnbgmnjmandolaaNumAwake
import Derived.Laws.StructEq
import Derived.Laws.Cover2
import Derived.Test.YtnbgmnjmandolaaFrame
namespace Go.Proofs.Ytnbgmnjmandolaa
open Go Go.RowKit NumM

theorem eq_arr8 (f : Nat → Int) (w : World) : (Op.equalIn 10000 27 (.agg (ints 8 f)) (.agg (ints 8 f))).run Try.prog w = .ok true w := by
  have u3 := Try.underlying3
  have a3 := Try.isAgg3
  have z3 := Try.sizeOf3
  rw [show (10000 : Nat) = 9999 + 1 from rfl, Op.equalIn]
  simp only [Sem.run_bind, run_underlying Try.underlying27, Result.andThen_ok]
  simp only [Std.Legacy.Range.forIn_eq_forIn_range', Std.Legacy.Range.size, Nat.sub_zero, Nat.add_sub_cancel, Nat.div_one, List.range'_succ, List.range'_zero, List.forIn_cons, List.forIn_nil]
  rw [show ints 8 f = #[.int .i64 (f 0), .int .i64 (f 1), .int .i64 (f 2), .int .i64 (f 3), .int .i64 (f 4), .int .i64 (f 5), .int .i64 (f 6), .int .i64 (f 7)] from rfl]
  go_simp
theorem fits_fdiv (a b : Int) (ha : Fits a) (h0 : b ≠ 0) (h1 : b ≠ -1) : Fits (a.fdiv b) := by
  by_cases hm : a.tmod b = 0
  · rw [← (dm_same a b h0 hm).1]; exact fits_tdiv a b ha h0 h1
  · have hh := half_tdiv a b ha h1 hm
    by_cases hs : a < 0 ↔ b < 0
    · rw [← (dm_up a b h0 hs).1]; exact fits_tdiv a b ha h0 h1
    · rw [← (dm_down a b h0 hm hs).1]; unfold Fits; omega
theorem fd_eq (a b : Int) : a.fdiv b * b + a.fmod b = a := by
  have := Int.mul_fdiv_add_fmod a b
  rw [Int.mul_comm]; exact this
set_option maxRecDepth 100000 in
set_option maxHeartbeats 4000000 in
theorem parts_zero (a b : Int) (w : World) (hb : b = 0) : Calls Try.prog 3 #[.int .i64 a, .int .i64 b] w (One w) := by
  subst hb
  go_enter Try.func3, Try.ntmps3
  go_wp2_with fail
  refine (div_zero a 0 _ rfl).mono ?_
  rintro e w' ⟨rfl, rfl⟩
  go_wp2_with fail
  refine (mod_zero a 0 _ rfl).mono ?_
  rintro e w' ⟨rfl, rfl⟩
  go_wp2_with fail
  refine (awake_any _).mono ?_
  rintro e w' ⟨rfl, rfl⟩
  go_wp2_with fail
  go_ret
  exact ⟨rfl, Below.refl _ _⟩
set_option maxRecDepth 100000 in
set_option maxHeartbeats 4000000 in
theorem parts_over (w : World) : Calls Try.prog 3 #[.int .i64 (-9223372036854775808), .int .i64 (-1)] w (One w) := by
  have e := Lib.hid (show (-9223372036854775808 : Int).fmod (-1) = 0 from by decide)
  go_enter Try.func3, Try.ntmps3
  go_wp2_with fail
  refine (div_over _).mono ?_
  rintro e w' ⟨rfl, rfl⟩
  go_wp2_with fail
  refine (mod_plain _ _ _ (by decide) (by decide) (by decide)).mono ?_
  rintro e w' ⟨rfl, rfl⟩
  rw [e.out]
  go_wp2_with fail
  refine (awake_any _).mono ?_
  rintro e w' ⟨rfl, rfl⟩
  go_wp2_with fail
  go_ret
  exact ⟨rfl, Below.refl _ _⟩
set_option maxRecDepth 100000 in
set_option maxHeartbeats 4000000 in
theorem parts_plain (a b : Int) (w : World) (ha : Fits a) (hb : Fits b) (h0 : b ≠ 0) (hq : Fits (a.fdiv b))
    (hdiv : ∀ w, Calls Try.prog 8 #[.int .i64 a, .int .i64 b] w fun e w' => e = .returned (.tuple #[.int .i64 (a.fdiv b), .int .i64 0]) ∧ w = w') :
    Calls Try.prog 3 #[.int .i64 a, .int .i64 b] w (One w) := by
  have h0' : (b == 0) = false := by simpa using h0
  have hfr : Fits (a.fmod b) := fits_fmod a b ha hb
  have HD := Lib.hid hdiv
  have HE := Lib.hid (fd_eq a b)
  have heq := eq_arr8 (cn a)
  have hpos : 0 < b → 0 ≤ a.fmod b ∧ a.fmod b < b := fun hp => ((Int.fdiv_fmod_unique (a := a) (r := a.fmod b) (q := a.fdiv b) hp).1 ⟨rfl, rfl⟩).2
  have hneg : b < 0 → b < a.fmod b ∧ a.fmod b ≤ 0 := fun hp => ((Int.fdiv_fmod_unique' (a := a) (r := a.fmod b) (q := a.fdiv b) hp).1 ⟨rfl, rfl⟩).2
  have HS : Hid (0 < b ∧ 0 ≤ a.fmod b ∧ a.fmod b < b ∨ b < 0 ∧ b < a.fmod b ∧ a.fmod b ≤ 0) := by
    by_cases h : 0 < b
    · exact .inl ⟨h, hpos h⟩
    · exact .inr ⟨by omega, hneg (by omega)⟩
  have HM := Lib.hid (fun w => mod_plain a b w ha hb h0)
  clear hpos hneg hdiv h0
  generalize a.fdiv b = q at *
  generalize a.fmod b = r at *
  have Hqb : Hid (-649037107316853453566312041152512 * 1048576 ≤ q * b ∧ q * b ≤ 649037107316853453566312041152511 * 1048576) := by
    have h := HE.out
    unfold Fits at ha hfr
    exact ⟨by omega, by omega⟩
  have Hrb : Hid (-649037107316853453566312041152512 * 1048576 ≤ r ∧ r ≤ 649037107316853453566312041152511 * 1048576) := by
    unfold Fits at hfr
    exact ⟨by omega, by omega⟩
  by_cases hr : r = 0
  · subst hr
    go_enter Try.func3, Try.ntmps3
    go_wp2_with fail
    refine (HD.out _).mono ?_
    rintro e w' ⟨rfl, rfl⟩
    go_wp2_with fail
    refine (HM.out _).mono ?_
    rintro e w' ⟨rfl, rfl⟩
    go_wp2_with fail
    refine (rmul_any q b _ hq hb).mono ?_
    rintro e w1 ⟨rfl, hb1⟩
    go_wp2_with fail
    refine (of_any _ _ hfr).mono ?_
    rintro e w2 ⟨rfl, hb2⟩
    go_wp2_with fail
    refine (add_any _ _ _ (fun j _ => cn_bd _ Hqb.out j) (fun j _ => cn_bd _ Hrb.out j)).mono ?_
    rintro e w3 ⟨rfl, hb3⟩
    rw [tl_cn, tl_cn, HE.out]
    go_wp2_with fail
    refine (of_any _ _ ha).mono ?_
    rintro e w4 ⟨rfl, hb4⟩
    go_wp2_with fail
    refine (awake_any _).mono ?_
    rintro e w5 ⟨rfl, rfl⟩
    go_wp2_with fail
    go_ret
    have z1 := hb1.size
    have z2 := hb2.size
    have z3 := hb3.size
    exact ⟨rfl, (((hb1.trans (hb2.mono z1)).trans (hb3.mono (by omega))).trans (hb4.mono (by omega)))⟩
  · have hr' : (r != 0) = true := by simpa using hr
    have HR := Lib.hid hr
    clear hr
    rcases HS.out with ⟨s1, s2, s3⟩ | ⟨s1, s2, s3⟩
    · clear HS
      go_enter Try.func3, Try.ntmps3
      go_wp2_with fail
      refine (HD.out _).mono ?_
      rintro e w' ⟨rfl, rfl⟩
      go_wp2_with fail
      refine (HM.out _).mono ?_
      rintro e w' ⟨rfl, rfl⟩
      go_wp2_with fail
      refine (rmul_any q b _ hq hb).mono ?_
      rintro e w1 ⟨rfl, hb1⟩
      go_wp2_with fail
      refine (of_any _ _ hfr).mono ?_
      rintro e w2 ⟨rfl, hb2⟩
      go_wp2_with fail
      refine (add_any _ _ _ (fun j _ => cn_bd _ Hqb.out j) (fun j _ => cn_bd _ Hrb.out j)).mono ?_
      rintro e w3 ⟨rfl, hb3⟩
      rw [tl_cn, tl_cn, HE.out]
      go_wp2_with fail
      refine (of_any _ _ ha).mono ?_
      rintro e w4 ⟨rfl, hb4⟩
      go_wp2_with fail
      refine (awake_any _).mono ?_
      rintro e w5 ⟨rfl, rfl⟩
      go_wp2_with fail
      go_ret
      have z1 := hb1.size
      have z2 := hb2.size
      have z3 := hb3.size
      exact ⟨rfl, (((hb1.trans (hb2.mono z1)).trans (hb3.mono (by omega))).trans (hb4.mono (by omega)))⟩
    · clear HS
      go_enter Try.func3, Try.ntmps3
      go_wp2_with fail
      refine (HD.out _).mono ?_
      rintro e w' ⟨rfl, rfl⟩
      go_wp2_with fail
      refine (HM.out _).mono ?_
      rintro e w' ⟨rfl, rfl⟩
      go_wp2_with fail
      refine (rmul_any q b _ hq hb).mono ?_
      rintro e w1 ⟨rfl, hb1⟩
      go_wp2_with fail
      refine (of_any _ _ hfr).mono ?_
      rintro e w2 ⟨rfl, hb2⟩
      go_wp2_with fail
      refine (add_any _ _ _ (fun j _ => cn_bd _ Hqb.out j) (fun j _ => cn_bd _ Hrb.out j)).mono ?_
      rintro e w3 ⟨rfl, hb3⟩
      rw [tl_cn, tl_cn, HE.out]
      go_wp2_with fail
      refine (of_any _ _ ha).mono ?_
      rintro e w4 ⟨rfl, hb4⟩
      go_wp2_with fail
      refine (awake_any _).mono ?_
      rintro e w5 ⟨rfl, rfl⟩
      go_wp2_with fail
      go_ret
      have z1 := hb1.size
      have z2 := hb2.size
      have z3 := hb3.size
      exact ⟨rfl, (((hb1.trans (hb2.mono z1)).trans (hb3.mono (by omega))).trans (hb4.mono (by omega)))⟩
end Go.Proofs.Ytnbgmnjmandolaa
