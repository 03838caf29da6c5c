/-
  THE WALKS of the document's Join and Split, and of the law's far.
-/
import Derived.Test.YtbejbagpdjfgmaaDoorCkRise
import Derived.Test.YtbejbagpdjfgmaaDoorRefDays
namespace Go.Proofs.YtbejbagpdjfgmaaDoor
open Go Go.RowKit CivM NumM
theorem far_no (s : Int) (w : World) (h1 : -604800 < s) (h2 : s < 604800) : Calls Tryd.prog 11 #[.int .i64 s] w fun e w' => e = .returned (.bool false) ∧ w = w' := by
  have d2 : decide (s ≤ -604800) = false := decide_eq_false (by omega)
  have d1 : decide (604800 ≤ s) = false := decide_eq_false (by omega)
  go_enter Tryd.func11, Tryd.ntmps11
  go_wp2_with fail
  go_ret
  exact ⟨rfl, rfl⟩
theorem far_yes (s : Int) (w : World) (h : s ≤ -604800 ∨ 604800 ≤ s) : Calls Tryd.prog 11 #[.int .i64 s] w fun e w' => e = .returned (.bool true) ∧ w = w' := by
  rcases h with h | h
  · have d2 : decide (s ≤ -604800) = true := decide_eq_true h
    have d1 : decide (604800 ≤ s) = false := decide_eq_false (by omega)
    go_enter Tryd.func11, Tryd.ntmps11
    go_wp2_with fail
    go_ret
    exact ⟨rfl, rfl⟩
  · have d1 : decide (604800 ≤ s) = true := decide_eq_true h
    go_enter Tryd.func11, Tryd.ntmps11
    go_wp2_with fail
    go_ret
    exact ⟨rfl, rfl⟩
set_option maxHeartbeats 2000000 in
theorem rjoin_ok (y m d s : Int) (w : World) (hv : Valid y m d) (h1 : -604800 < s) (h2 : s < 604800) :
    Calls Tryd.prog 12 #[.agg #[.int .i64 y, .int .i64 m, .int .i64 d], .int .i64 s] w fun e w' => e = .returned (.int .i64 (num y m d * 86400 + s)) ∧ Below w.heap.size w w' := by
  have nb := num_bd hv
  have HV := Lib.hid hv
  have hb0 : Below w.heap.size w (w.alloc (.cells #[.int .i64 y, .int .i64 m, .int .i64 d] 23)) := (Below.refl _ _).alloc (Nat.le_refl _) _
  have HB0 := Lib.hid hb0
  have hs0 : (w.alloc (.cells #[.int .i64 y, .int .i64 m, .int .i64 d] 23)).heap.size = w.heap.size + 1 := by simp
  obtain ⟨N, hN⟩ : ∃ N, num y m d = N := ⟨_, rfl⟩
  rw [hN] at nb ⊢
  have HN := Lib.hid hN
  obtain ⟨nb1, nb2⟩ := nb
  clear hN hv hb0
  go_enter Tryd.func12, Tryd.ntmps12
  go_wp2_with fail
  refine (rdays_ok y m d _ HV.out).mono ?_
  rintro e w1 ⟨rfl, hb⟩
  have HB1 := Lib.hid (HB0.out.trans (hb.mono (by omega)))
  rw [HN.out]
  clear hb
  go_wp2_with fail
  go_ret
  exact ⟨by rw [Int.mul_comm N 86400]; rfl, HB1.out⟩
set_option maxHeartbeats 2000000 in
theorem rsplit_any (s : Int) (w : World) (hf : Fits s) :
    Calls Tryd.prog 14 #[.int .i64 s] w fun e w' => e = .returned (.tuple #[.int .i64 (s / 86400), .int .i64 (s % 86400)]) ∧ w = w' := by
  unfold Fits at hf
  obtain ⟨f1, f2⟩ := hf
  obtain ⟨q, hq⟩ : ∃ q, s.tdiv 86400 = q := ⟨_, rfl⟩
  by_cases h : 0 ≤ s
  · have hq2 : q = s / 86400 := by rw [← hq, Int.tdiv_eq_ediv_of_nonneg h]
    have q1 : 0 ≤ q := by omega
    have q2 : 86400 * q ≤ s := by omega
    have q3 : s < 86400 * q + 86400 := by omega
    have E1 := Lib.hid (show s / 86400 = q from hq2.symm)
    have E2 := Lib.hid (show s % 86400 = s - 86400 * q by omega)
    rw [E1.out, E2.out]
    have hq3 : s / 86400 = q := hq2.symm
    clear hq2
    go_enter Tryd.func14, Tryd.ntmps14
    go_wp2_with fail
    go_ret2
    exact ⟨rfl, rfl⟩
  · have hq2 : 86400 * q - 86400 < s ∧ s ≤ 86400 * q + 86399 ∧ s ≤ 86400 * q := by
      have hneg : s = -(-s) := by omega
      rw [hneg, Int.neg_tdiv] at hq
      rw [Int.tdiv_eq_ediv_of_nonneg (by omega)] at hq
      omega
    obtain ⟨q1, q2, q3⟩ := hq2
    by_cases hr : s = 86400 * q
    · have E1 := Lib.hid (show s / 86400 = q by omega)
      have E2 := Lib.hid (show s % 86400 = 0 by omega)
      rw [E1.out, E2.out]
      have hr2 : s - 86400 * q = 0 := by omega
      clear hr
      go_enter Tryd.func14, Tryd.ntmps14
      go_wp2_with fail
      go_ret2

      exact ⟨rfl, rfl⟩
    · have E1 := Lib.hid (show s / 86400 = q - 1 by omega)
      have E2 := Lib.hid (show s % 86400 = s - 86400 * q + 86400 by omega)
      rw [E1.out, E2.out]
      have q4 : s < 86400 * q := by omega
      clear hr
      go_enter Tryd.func14, Tryd.ntmps14
      go_wp2_with fail
      go_ret2
      exact ⟨rfl, rfl⟩
end Go.Proofs.YtbejbagpdjfgmaaDoor
