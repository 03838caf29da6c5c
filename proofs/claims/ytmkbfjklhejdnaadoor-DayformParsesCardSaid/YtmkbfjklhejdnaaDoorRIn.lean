/-
  THE WALKS of the document's Right and In.
-/
import Derived.Test.YtmkbfjklhejdnaaDoorInLoop
import Derived.Test.YtmkbfjklhejdnaaDoorRefDays
import Derived.Deep.Cut
namespace Go.Proofs.YtmkbfjklhejdnaaDoor
open Go Go.RowKit CivM NumM
set_option maxHeartbeats 4000000 in
theorem rright_any (k wk n : Int) (w : World) :
    Calls Tryd.prog 20 #[.agg #[.int .i64 k, .int .i64 wk, .int .i64 n]] w fun e w' => e = .returned (.bool (decide (RightD k wk n))) ∧ Below w.heap.size w w' := by
  go_enter Tryd.func20, Tryd.ntmps20
  go_wp2_with fail
  all_goals
    go_ret
    refine ⟨?_, by first | exact Below.refl _ _ | exact (Below.refl _ _).alloc (Nat.le_refl _) _⟩
    dsimp only
    simp only [beq_iff_eq, beq_eq_false_iff_ne, ne_eq] at *
    refine congrArg (fun (b : Bool) => Ending.returned (.bool b)) ?_
    rw [Bool.eq_iff_iff]
    simp only [decide_eq_true_eq, beq_iff_eq, Bool.false_eq_true, false_iff]
    unfold RightD
    omega
set_option maxRecDepth 100000 in
set_option maxHeartbeats 4000000 in
theorem rin_wrong (k wk n y m : Int) (w : World) (h : ¬ RightD k wk n) :
    Calls Tryd.prog 14 #[.agg #[.int .i64 k, .int .i64 wk, .int .i64 n], .int .i64 y, .int .i64 m] w fun e w' => e = .returned (.tuple #[.int .i64 0, .bool false]) ∧ Below w.heap.size w w' := by
  have EC := Lib.hid (decide_eq_false h)
  clear h
  go_enter Tryd.func14, Tryd.ntmps14
  go_wp2_with fail
  refine (rright_any k wk n _).mono ?_
  rintro e W1 ⟨rfl, b1⟩
  rw [EC.out]
  go_wp2_with fail
  go_ret2
  exact ⟨rfl, ((Below.refl _ _).alloc (Nat.le_refl _) _).trans (b1.mono (by simp))⟩
set_option maxRecDepth 100000 in
set_option maxHeartbeats 4000000 in
theorem rin_off (k wk n y m : Int) (w : World) (h : RightD k wk n) (hl : ¬ (-100000 ≤ y ∧ y ≤ 100000 ∧ 1 ≤ m ∧ m ≤ 12)) :
    Calls Tryd.prog 14 #[.agg #[.int .i64 k, .int .i64 wk, .int .i64 n], .int .i64 y, .int .i64 m] w fun e w' => e = .returned (.tuple #[.int .i64 0, .bool false]) ∧ Below w.heap.size w w' := by
  have EC := Lib.hid (decide_eq_true h)
  have HV := Lib.hid (show ¬ Valid y m 1 from fun v => hl ⟨v.y1, v.y2, v.m1, v.m2⟩)
  clear h hl
  go_enter Tryd.func14, Tryd.ntmps14
  go_wp2_with fail
  refine (rright_any k wk n _).mono ?_
  rintro e W1 ⟨rfl, b1⟩
  rw [EC.out]
  have B1 := Lib.hid (((Below.refl w.heap.size w).alloc (Nat.le_refl _) _).trans (b1.mono (by simp)))
  clear b1
  go_wp2_with fail
  refine (right_no y m 1 _ HV.out).mono ?_
  rintro e W2 ⟨rfl, b2⟩
  go_wp2_with fail
  go_ret2
  exact ⟨rfl, B1.out.trans (b2.mono B1.out.size)⟩
set_option maxRecDepth 100000 in
set_option maxHeartbeats 4000000 in
theorem rin_many (k wk n y m : Int) (w : World) (h : RightD k wk n) (hl : -100000 ≤ y ∧ y ≤ 100000 ∧ 1 ≤ m ∧ m ≤ 12) (hn : dim y m < n) :
    Calls Tryd.prog 14 #[.agg #[.int .i64 k, .int .i64 wk, .int .i64 n], .int .i64 y, .int .i64 m] w fun e w' => e = .returned (.tuple #[.int .i64 0, .bool false]) ∧ Below w.heap.size w w' := by
  have EC := Lib.hid (decide_eq_true h)
  have HV := Lib.hid (show Valid y m 1 from ⟨hl.1, hl.2.1, hl.2.2.1, hl.2.2.2, by omega, by have := dim_bd y m; omega⟩)
  clear h hl
  go_enter Tryd.func14, Tryd.ntmps14
  go_wp2_with fail
  have D0 := DyB.new w k wk n
  have b0 : Below w.heap.size w (w.alloc (.cells #[.int .i64 k, .int .i64 wk, .int .i64 n] 24)) := (Below.refl _ _).alloc (Nat.le_refl _) _
  have s0 : (w.alloc (.cells #[.int .i64 k, .int .i64 wk, .int .i64 n] 24)).heap.size = w.heap.size + 1 := by simp
  generalize w.alloc (.cells #[.int .i64 k, .int .i64 wk, .int .i64 n] 24) = W0 at *
  refine (rright_any k wk n _).mono ?_
  rintro e W1 ⟨rfl, b1⟩
  rw [EC.out]
  have D1 := Lib.hid (D0.below b1 (by omega))
  have B1 := Lib.hid (b0.trans (b1.mono (by omega)))
  have s1 : w.heap.size + 1 ≤ W1.heap.size := by have := b1.size; omega
  clear b1 b0 D0 s0
  go_wp2_with fail
  refine (right_ok y m 1 _ HV.out).mono ?_
  rintro e W2 ⟨rfl, b2⟩
  have D2 := Lib.hid (D1.out.below b2 (by omega))
  have B2 := Lib.hid (B1.out.trans (b2.mono (by omega)))
  have s2 : w.heap.size + 1 ≤ W2.heap.size := by have := b2.size; omega
  obtain ⟨c0, c1, c2⟩ := D2.out.cells
  clear b2 B1 D1 s1
  go_wp2_with fail
  refine (rlong_any y m _).mono ?_
  rintro e w9 ⟨rfl, rfl⟩
  obtain ⟨L, hL⟩ : ∃ L, dim y m = L := ⟨_, rfl⟩
  have HLm := Lib.hid hL
  have lb := dim_bd y m
  rw [hL] at hn lb ⊢
  obtain ⟨lb1, lb2⟩ := lb
  clear hL
  go_wp2_with fail
  go_ret2
  exact ⟨rfl, B2.out⟩
theorem offD_is {D wk s O : Int} (hs : s = 1 ∨ s = -1) (h0 : 0 ≤ wk) (h1 : wk ≤ 6) (h : offD D wk s = O) : 0 ≤ O ∧ O ≤ 6 ∧ (D + s * O + 4) % 7 = wk ∧ ∀ j : Nat, (j : Int) < O → (D + s * (j : Int) + 4) % 7 ≠ wk := by
  unfold offD at h
  rcases hs with rfl | rfl
  · rw [if_pos rfl] at h
    refine ⟨by omega, by omega, by omega, fun j hj => by omega⟩
  · rw [if_neg (by decide)] at h
    refine ⟨by omega, by omega, by omega, fun j hj => by omega⟩
theorem mod77 (a t z : Int) (ht : (a + 4).tmod 7 = t) (hz : (t + 7).tmod 7 = z) : -6 ≤ t ∧ t ≤ 6 ∧ z = (a + 4) % 7 := by
  have h1 := Int.tmod_eq_emod (a := a + 4) (b := 7)
  have t7 : 0 ≤ t + 7 := by
    rw [← ht, h1]
    split <;> simp <;> omega
  rw [Int.tmod_eq_emod_of_nonneg t7] at hz
  rw [h1] at ht
  split at ht <;> simp at ht <;> omega
set_option maxRecDepth 100000 in
set_option maxHeartbeats 4000000 in
theorem rin_fixed (wk n y m : Int) (w : World) (h : RightD 0 wk n) (hl : -100000 ≤ y ∧ y ≤ 100000 ∧ 1 ≤ m ∧ m ≤ 12) (hn : n ≤ dim y m) :
    Calls Tryd.prog 14 #[.agg #[.int .i64 0, .int .i64 wk, .int .i64 n], .int .i64 y, .int .i64 m] w fun e w' => e = .returned (.tuple #[.int .i64 (num y m n), .bool true]) ∧ Below w.heap.size w w' := by
  obtain ⟨k, hk⟩ : ∃ k : Int, k = 0 := ⟨_, rfl⟩
  have hn1 : 1 ≤ n ∧ n ≤ 31 := by rcases h with h | h | h <;> omega
  rw [← hk] at h ⊢
  have HK0 := Lib.hid hk
  clear hk
  have EC := Lib.hid (decide_eq_true h)
  have HV := Lib.hid (show Valid y m 1 from ⟨hl.1, hl.2.1, hl.2.2.1, hl.2.2.2, by omega, by have := dim_bd y m; omega⟩)
  clear h hl
  go_enter Tryd.func14, Tryd.ntmps14
  go_wp2_with fail
  have D0 := DyB.new w k wk n
  have b0 : Below w.heap.size w (w.alloc (.cells #[.int .i64 k, .int .i64 wk, .int .i64 n] 24)) := (Below.refl _ _).alloc (Nat.le_refl _) _
  have s0 : (w.alloc (.cells #[.int .i64 k, .int .i64 wk, .int .i64 n] 24)).heap.size = w.heap.size + 1 := by simp
  generalize w.alloc (.cells #[.int .i64 k, .int .i64 wk, .int .i64 n] 24) = W0 at *
  refine (rright_any k wk n _).mono ?_
  rintro e W1 ⟨rfl, b1⟩
  rw [EC.out]
  have D1 := Lib.hid (D0.below b1 (by omega))
  have B1 := Lib.hid (b0.trans (b1.mono (by omega)))
  have s1 : w.heap.size + 1 ≤ W1.heap.size := by have := b1.size; omega
  clear b1 b0 D0 s0
  go_wp2_with fail
  refine (right_ok y m 1 _ HV.out).mono ?_
  rintro e W2 ⟨rfl, b2⟩
  have D2 := Lib.hid (D1.out.below b2 (by omega))
  have B2 := Lib.hid (B1.out.trans (b2.mono (by omega)))
  have s2 : w.heap.size + 1 ≤ W2.heap.size := by have := b2.size; omega
  obtain ⟨c0, c1, c2⟩ := D2.out.cells
  clear b2 B1 D1 s1
  go_wp2_with fail
  refine (rlong_any y m _).mono ?_
  rintro e w9 ⟨rfl, rfl⟩
  obtain ⟨L, hL⟩ : ∃ L, dim y m = L := ⟨_, rfl⟩
  have HLm := Lib.hid hL
  have lb := dim_bd y m
  rw [hL] at hn lb ⊢
  obtain ⟨lb1, lb2⟩ := lb
  clear hL
  have hk := HK0.out
  clear HK0
  subst hk
  obtain ⟨n1, n2⟩ := hn1
  obtain ⟨N, hN⟩ : ∃ N, num y m 1 = N := ⟨_, rfl⟩
  have nb := num_bd HV.out
  rw [hN] at nb
  have SD := Lib.hid (fun v : BW W2 => calls_bw (hN ▸ rdays_ok y m 1 v.1 HV.out))
  have HNe := Lib.hid hN
  clear hN
  obtain ⟨nb1, nb2⟩ := nb
  go_upto_region 6 with fail
  have bN := bw_cell c2
  have hne := bw_ne W2
  refine wp_region_bw (by kernel_rfl) (by kernel_rfl) ?_
  repeat (go_big_quiet_step (exact SD.out _))
  refine wpQuiet_nil ?_
  rintro W3 ⟨v3, e3⟩
  have b3 := v3.2
  rw [← e3] at b3
  have D3 := Lib.hid (D2.out.below b3 (by omega))
  have B3 := Lib.hid (B2.out.trans (b3.mono (by omega)))
  clear e3 v3 b3 bN hne c0 c1 c2 D2 B2
  obtain ⟨c0, c1, c2⟩ := D3.out.cells
  go_wp2_with fail
  go_loopw [9] (fun v wr => v = .int .i64 (N + n - 1) ∧ wr = W3) (fun v _ => 0)
  case atStart => exact ⟨rfl, rfl⟩
  case round =>
    obtain ⟨rfl, rfl⟩ := hrel
    go_wp2_with fail
    go_ret2
    refine ⟨?_, B3.out⟩
    rw [show num y m n = N + n - 1 by rw [← HNe.out]; unfold num; omega]
    rfl
set_option maxRecDepth 100000 in
set_option maxHeartbeats 4000000 in
theorem rin_nogreater (wk n y m : Int) (w : World) (h : RightD 3 wk n) (hl : -100000 ≤ y ∧ y ≤ 100000 ∧ 1 ≤ m ∧ m ≤ 12) (hn : n ≤ dim y m) :
    Calls Tryd.prog 14 #[.agg #[.int .i64 3, .int .i64 wk, .int .i64 n], .int .i64 y, .int .i64 m] w fun e w' => e = .returned (.tuple #[.int .i64 (num y m n + (-1) * offD (num y m n) wk (-1)), .bool true]) ∧ Below w.heap.size w w' := by
  obtain ⟨k, hk⟩ : ∃ k : Int, k = 3 := ⟨_, rfl⟩
  have hn1 : 1 ≤ n ∧ n ≤ 31 := by rcases h with h | h | h <;> omega
  have hwk : 0 ≤ wk ∧ wk ≤ 6 := by rcases h with h | h | h <;> omega
  rw [← hk] at h ⊢
  have HK0 := Lib.hid hk
  have HWk := Lib.hid hwk
  clear hk hwk
  have EC := Lib.hid (decide_eq_true h)
  have HV := Lib.hid (show Valid y m 1 from ⟨hl.1, hl.2.1, hl.2.2.1, hl.2.2.2, by omega, by have := dim_bd y m; omega⟩)
  clear h hl
  go_enter Tryd.func14, Tryd.ntmps14
  go_wp2_with fail
  have D0 := DyB.new w k wk n
  have b0 : Below w.heap.size w (w.alloc (.cells #[.int .i64 k, .int .i64 wk, .int .i64 n] 24)) := (Below.refl _ _).alloc (Nat.le_refl _) _
  have s0 : (w.alloc (.cells #[.int .i64 k, .int .i64 wk, .int .i64 n] 24)).heap.size = w.heap.size + 1 := by simp
  generalize w.alloc (.cells #[.int .i64 k, .int .i64 wk, .int .i64 n] 24) = W0 at *
  refine (rright_any k wk n _).mono ?_
  rintro e W1 ⟨rfl, b1⟩
  rw [EC.out]
  have D1 := Lib.hid (D0.below b1 (by omega))
  have B1 := Lib.hid (b0.trans (b1.mono (by omega)))
  have s1 : w.heap.size + 1 ≤ W1.heap.size := by have := b1.size; omega
  clear b1 b0 D0 s0
  go_wp2_with fail
  refine (right_ok y m 1 _ HV.out).mono ?_
  rintro e W2 ⟨rfl, b2⟩
  have D2 := Lib.hid (D1.out.below b2 (by omega))
  have B2 := Lib.hid (B1.out.trans (b2.mono (by omega)))
  have s2 : w.heap.size + 1 ≤ W2.heap.size := by have := b2.size; omega
  obtain ⟨c0, c1, c2⟩ := D2.out.cells
  clear b2 B1 D1 s1
  go_wp2_with fail
  refine (rlong_any y m _).mono ?_
  rintro e w9 ⟨rfl, rfl⟩
  obtain ⟨L, hL⟩ : ∃ L, dim y m = L := ⟨_, rfl⟩
  have HLm := Lib.hid hL
  have lb := dim_bd y m
  rw [hL] at hn lb ⊢
  obtain ⟨lb1, lb2⟩ := lb
  clear hL
  have hk := HK0.out
  clear HK0
  subst hk
  obtain ⟨n1, n2⟩ := hn1
  obtain ⟨N, hN⟩ : ∃ N, num y m 1 = N := ⟨_, rfl⟩
  have nb := num_bd HV.out
  rw [hN] at nb
  have SD := Lib.hid (fun v : BW W2 => calls_bw (hN ▸ rdays_ok y m 1 v.1 HV.out))
  have HNe := Lib.hid hN
  clear hN
  obtain ⟨nb1, nb2⟩ := nb
  go_upto_region 6 with fail
  have bN := bw_cell c2
  have hne := bw_ne W2
  refine wp_region_bw (by kernel_rfl) (by kernel_rfl) ?_
  repeat (go_big_quiet_step (exact SD.out _))
  refine wpQuiet_nil ?_
  rintro W3 ⟨v3, e3⟩
  have b3 := v3.2
  rw [← e3] at b3
  have D3 := Lib.hid (D2.out.below b3 (by omega))
  have B3 := Lib.hid (B2.out.trans (b3.mono (by omega)))
  clear e3 v3 b3 bN hne c0 c1 c2 D2 B2
  obtain ⟨c0, c1, c2⟩ := D3.out.cells
  go_wp2_with fail
  have hwk := HWk.out
  obtain ⟨T, hT⟩ : ∃ T, N + n - 1 = T := ⟨_, rfl⟩
  rw [hT]
  have HT := Lib.hid hT
  have hT3 : -38000000 ≤ T ∧ T ≤ 36000000 := by omega
  obtain ⟨t1, t2⟩ := hT3
  clear hT
  obtain ⟨O, hO⟩ : ∃ O, offD T wk ((-1)) = O := ⟨_, rfl⟩
  have HO := Lib.hid hO
  have HO2 := Lib.hid (offD_is (D := T) (s := (-1)) (by decide) hwk.1 hwk.2 hO)
  have o1 : 0 ≤ O := HO2.out.1
  have o2 : O ≤ 6 := HO2.out.2.1
  clear hO
  go_loopw [9] (fun v wr => ∃ (j : Nat) (a : Int), (j : Int) ≤ O ∧ v = .int .i64 a ∧ a = T + (-1) * (j : Int) ∧ wr = W3) (fun v _ => (O - (-1) * (intOf v - T)).toNat)
  case atStart => exact ⟨0, T, by omega, rfl, by simp, rfl⟩
  case round =>
    obtain ⟨j, a, hj, rfl, ha, rfl⟩ := hrel
    have ha1 : -39000000 ≤ a ∧ a ≤ 37000000 := by omega
    obtain ⟨a1, a2⟩ := ha1
    obtain ⟨t, ht⟩ : ∃ t, (a + 4).tmod 7 = t := ⟨_, rfl⟩
    obtain ⟨z, hz⟩ : ∃ z, (t + 7).tmod 7 = z := ⟨_, rfl⟩
    have hz2 := mod77 a t z ht hz
    obtain ⟨z1, z2, z3⟩ := hz2
    by_cases hj2 : (j : Int) = O
    · have hzw : z = wk := by rw [z3, ha, hj2]; exact HO2.out.2.2.1
      have q : (z != wk) = false := by rw [hzw]; simp
      have HA := Lib.hid (show a = T + (-1) * O by rw [ha, hj2])
      clear hzw z3 ha hj2 hj
      go_wp2_with fail
      go_ret2
      refine ⟨?_, B3.out⟩
      rw [show num y m n = T by rw [← HT.out, ← HNe.out]; unfold num; omega, HO.out, ← HA.out]
      rfl
    · have hzw : z ≠ wk := by rw [z3, ha]; exact HO2.out.2.2.2 j (by omega)
      have q : (z != wk) = true := by rw [bne_iff_ne]; exact hzw
      have HA := Lib.hid ha
      clear hzw z3 ha
      go_wp2_with fail
      go_roundw
      case rel => exact ⟨j + 1, _, by omega, rfl, by rw [HA.out]; omega, trivial⟩
      case measure =>
        have := HA.out
        simp [intOf]
        omega
set_option maxRecDepth 100000 in
set_option maxHeartbeats 4000000 in
theorem rin_noless (wk n y m : Int) (w : World) (h : RightD 2 wk n) (hl : -100000 ≤ y ∧ y ≤ 100000 ∧ 1 ≤ m ∧ m ≤ 12) (hn : n ≤ dim y m) :
    Calls Tryd.prog 14 #[.agg #[.int .i64 2, .int .i64 wk, .int .i64 n], .int .i64 y, .int .i64 m] w fun e w' => e = .returned (.tuple #[.int .i64 (num y m n + 1 * offD (num y m n) wk 1), .bool true]) ∧ Below w.heap.size w w' := by
  obtain ⟨k, hk⟩ : ∃ k : Int, k = 2 := ⟨_, rfl⟩
  have hn1 : 1 ≤ n ∧ n ≤ 31 := by rcases h with h | h | h <;> omega
  have hwk : 0 ≤ wk ∧ wk ≤ 6 := by rcases h with h | h | h <;> omega
  rw [← hk] at h ⊢
  have HK0 := Lib.hid hk
  have HWk := Lib.hid hwk
  clear hk hwk
  have EC := Lib.hid (decide_eq_true h)
  have HV := Lib.hid (show Valid y m 1 from ⟨hl.1, hl.2.1, hl.2.2.1, hl.2.2.2, by omega, by have := dim_bd y m; omega⟩)
  clear h hl
  go_enter Tryd.func14, Tryd.ntmps14
  go_wp2_with fail
  have D0 := DyB.new w k wk n
  have b0 : Below w.heap.size w (w.alloc (.cells #[.int .i64 k, .int .i64 wk, .int .i64 n] 24)) := (Below.refl _ _).alloc (Nat.le_refl _) _
  have s0 : (w.alloc (.cells #[.int .i64 k, .int .i64 wk, .int .i64 n] 24)).heap.size = w.heap.size + 1 := by simp
  generalize w.alloc (.cells #[.int .i64 k, .int .i64 wk, .int .i64 n] 24) = W0 at *
  refine (rright_any k wk n _).mono ?_
  rintro e W1 ⟨rfl, b1⟩
  rw [EC.out]
  have D1 := Lib.hid (D0.below b1 (by omega))
  have B1 := Lib.hid (b0.trans (b1.mono (by omega)))
  have s1 : w.heap.size + 1 ≤ W1.heap.size := by have := b1.size; omega
  clear b1 b0 D0 s0
  go_wp2_with fail
  refine (right_ok y m 1 _ HV.out).mono ?_
  rintro e W2 ⟨rfl, b2⟩
  have D2 := Lib.hid (D1.out.below b2 (by omega))
  have B2 := Lib.hid (B1.out.trans (b2.mono (by omega)))
  have s2 : w.heap.size + 1 ≤ W2.heap.size := by have := b2.size; omega
  obtain ⟨c0, c1, c2⟩ := D2.out.cells
  clear b2 B1 D1 s1
  go_wp2_with fail
  refine (rlong_any y m _).mono ?_
  rintro e w9 ⟨rfl, rfl⟩
  obtain ⟨L, hL⟩ : ∃ L, dim y m = L := ⟨_, rfl⟩
  have HLm := Lib.hid hL
  have lb := dim_bd y m
  rw [hL] at hn lb ⊢
  obtain ⟨lb1, lb2⟩ := lb
  clear hL
  have hk := HK0.out
  clear HK0
  subst hk
  obtain ⟨n1, n2⟩ := hn1
  obtain ⟨N, hN⟩ : ∃ N, num y m 1 = N := ⟨_, rfl⟩
  have nb := num_bd HV.out
  rw [hN] at nb
  have SD := Lib.hid (fun v : BW W2 => calls_bw (hN ▸ rdays_ok y m 1 v.1 HV.out))
  have HNe := Lib.hid hN
  clear hN
  obtain ⟨nb1, nb2⟩ := nb
  go_upto_region 6 with fail
  have bN := bw_cell c2
  have hne := bw_ne W2
  refine wp_region_bw (by kernel_rfl) (by kernel_rfl) ?_
  repeat (go_big_quiet_step (exact SD.out _))
  refine wpQuiet_nil ?_
  rintro W3 ⟨v3, e3⟩
  have b3 := v3.2
  rw [← e3] at b3
  have D3 := Lib.hid (D2.out.below b3 (by omega))
  have B3 := Lib.hid (B2.out.trans (b3.mono (by omega)))
  clear e3 v3 b3 bN hne c0 c1 c2 D2 B2
  obtain ⟨c0, c1, c2⟩ := D3.out.cells
  go_wp2_with fail
  have hwk := HWk.out
  obtain ⟨T, hT⟩ : ∃ T, N + n - 1 = T := ⟨_, rfl⟩
  rw [hT]
  have HT := Lib.hid hT
  have hT3 : -38000000 ≤ T ∧ T ≤ 36000000 := by omega
  obtain ⟨t1, t2⟩ := hT3
  clear hT
  obtain ⟨O, hO⟩ : ∃ O, offD T wk (1) = O := ⟨_, rfl⟩
  have HO := Lib.hid hO
  have HO2 := Lib.hid (offD_is (D := T) (s := 1) (by decide) hwk.1 hwk.2 hO)
  have o1 : 0 ≤ O := HO2.out.1
  have o2 : O ≤ 6 := HO2.out.2.1
  clear hO
  go_loopw [9] (fun v wr => ∃ (j : Nat) (a : Int), (j : Int) ≤ O ∧ v = .int .i64 a ∧ a = T + 1 * (j : Int) ∧ wr = W3) (fun v _ => (O - 1 * (intOf v - T)).toNat)
  case atStart => exact ⟨0, T, by omega, rfl, by simp, rfl⟩
  case round =>
    obtain ⟨j, a, hj, rfl, ha, rfl⟩ := hrel
    have ha1 : -39000000 ≤ a ∧ a ≤ 37000000 := by omega
    obtain ⟨a1, a2⟩ := ha1
    obtain ⟨t, ht⟩ : ∃ t, (a + 4).tmod 7 = t := ⟨_, rfl⟩
    obtain ⟨z, hz⟩ : ∃ z, (t + 7).tmod 7 = z := ⟨_, rfl⟩
    have hz2 := mod77 a t z ht hz
    obtain ⟨z1, z2, z3⟩ := hz2
    by_cases hj2 : (j : Int) = O
    · have hzw : z = wk := by rw [z3, ha, hj2]; exact HO2.out.2.2.1
      have q : (z != wk) = false := by rw [hzw]; simp
      have HA := Lib.hid (show a = T + 1 * O by rw [ha, hj2])
      clear hzw z3 ha hj2 hj
      go_wp2_with fail
      go_ret2
      refine ⟨?_, B3.out⟩
      rw [show num y m n = T by rw [← HT.out, ← HNe.out]; unfold num; omega, HO.out, ← HA.out]
      rfl
    · have hzw : z ≠ wk := by rw [z3, ha]; exact HO2.out.2.2.2 j (by omega)
      have q : (z != wk) = true := by rw [bne_iff_ne]; exact hzw
      have HA := Lib.hid ha
      clear hzw z3 ha
      go_wp2_with fail
      go_roundw
      case rel => exact ⟨j + 1, _, by omega, rfl, by rw [HA.out]; omega, trivial⟩
      case measure =>
        have := HA.out
        simp [intOf]
        omega
set_option maxRecDepth 100000 in
set_option maxHeartbeats 4000000 in
theorem rin_last (wk n y m : Int) (w : World) (h : RightD 1 wk n) (hl : -100000 ≤ y ∧ y ≤ 100000 ∧ 1 ≤ m ∧ m ≤ 12) (hn : n ≤ dim y m) :
    Calls Tryd.prog 14 #[.agg #[.int .i64 1, .int .i64 wk, .int .i64 n], .int .i64 y, .int .i64 m] w fun e w' => e = .returned (.tuple #[.int .i64 (num y m (dim y m) + (-1) * offD (num y m (dim y m)) wk (-1)), .bool true]) ∧ Below w.heap.size w w' := by
  obtain ⟨k, hk⟩ : ∃ k : Int, k = 1 := ⟨_, rfl⟩
  have hn1 : 0 ≤ n ∧ n ≤ 0 := by rcases h with h | h | h <;> omega
  have hwk : 0 ≤ wk ∧ wk ≤ 6 := by rcases h with h | h | h <;> omega
  rw [← hk] at h ⊢
  have HK0 := Lib.hid hk
  have HWk := Lib.hid hwk
  clear hk hwk
  have EC := Lib.hid (decide_eq_true h)
  have HV := Lib.hid (show Valid y m 1 from ⟨hl.1, hl.2.1, hl.2.2.1, hl.2.2.2, by omega, by have := dim_bd y m; omega⟩)
  clear h hl
  go_enter Tryd.func14, Tryd.ntmps14
  go_wp2_with fail
  have D0 := DyB.new w k wk n
  have b0 : Below w.heap.size w (w.alloc (.cells #[.int .i64 k, .int .i64 wk, .int .i64 n] 24)) := (Below.refl _ _).alloc (Nat.le_refl _) _
  have s0 : (w.alloc (.cells #[.int .i64 k, .int .i64 wk, .int .i64 n] 24)).heap.size = w.heap.size + 1 := by simp
  generalize w.alloc (.cells #[.int .i64 k, .int .i64 wk, .int .i64 n] 24) = W0 at *
  refine (rright_any k wk n _).mono ?_
  rintro e W1 ⟨rfl, b1⟩
  rw [EC.out]
  have D1 := Lib.hid (D0.below b1 (by omega))
  have B1 := Lib.hid (b0.trans (b1.mono (by omega)))
  have s1 : w.heap.size + 1 ≤ W1.heap.size := by have := b1.size; omega
  clear b1 b0 D0 s0
  go_wp2_with fail
  refine (right_ok y m 1 _ HV.out).mono ?_
  rintro e W2 ⟨rfl, b2⟩
  have D2 := Lib.hid (D1.out.below b2 (by omega))
  have B2 := Lib.hid (B1.out.trans (b2.mono (by omega)))
  have s2 : w.heap.size + 1 ≤ W2.heap.size := by have := b2.size; omega
  obtain ⟨c0, c1, c2⟩ := D2.out.cells
  clear b2 B1 D1 s1
  go_wp2_with fail
  refine (rlong_any y m _).mono ?_
  rintro e w9 ⟨rfl, rfl⟩
  obtain ⟨L, hL⟩ : ∃ L, dim y m = L := ⟨_, rfl⟩
  have HLm := Lib.hid hL
  have lb := dim_bd y m
  rw [hL] at hn lb ⊢
  obtain ⟨lb1, lb2⟩ := lb
  clear hL
  have hk := HK0.out
  clear HK0
  subst hk
  obtain ⟨n1, n2⟩ := hn1
  obtain ⟨N, hN⟩ : ∃ N, num y m 1 = N := ⟨_, rfl⟩
  have nb := num_bd HV.out
  rw [hN] at nb
  have SD := Lib.hid (fun v : BW W2 => calls_bw (hN ▸ rdays_ok y m 1 v.1 HV.out))
  have HNe := Lib.hid hN
  clear hN
  obtain ⟨nb1, nb2⟩ := nb
  go_upto_region 6 with fail
  have bN := bw_cell c2
  have hne := bw_ne W2
  refine wp_region_bw (by kernel_rfl) (by kernel_rfl) ?_
  repeat (go_big_quiet_step (exact SD.out _))
  refine wpQuiet_nil ?_
  rintro W3 ⟨v3, e3⟩
  have b3 := v3.2
  rw [← e3] at b3
  have D3 := Lib.hid (D2.out.below b3 (by omega))
  have B3 := Lib.hid (B2.out.trans (b3.mono (by omega)))
  clear e3 v3 b3 bN hne c0 c1 c2 D2 B2
  obtain ⟨c0, c1, c2⟩ := D3.out.cells
  go_wp2_with fail
  have hwk := HWk.out
  obtain ⟨T, hT⟩ : ∃ T, N + n - 1 + L = T := ⟨_, rfl⟩
  rw [hT]
  have HT := Lib.hid hT
  have hT3 : -38000000 ≤ T ∧ T ≤ 36000000 := by omega
  obtain ⟨t1, t2⟩ := hT3
  clear hT
  obtain ⟨O, hO⟩ : ∃ O, offD T wk ((-1)) = O := ⟨_, rfl⟩
  have HO := Lib.hid hO
  have HO2 := Lib.hid (offD_is (D := T) (s := (-1)) (by decide) hwk.1 hwk.2 hO)
  have o1 : 0 ≤ O := HO2.out.1
  have o2 : O ≤ 6 := HO2.out.2.1
  clear hO
  go_loopw [9] (fun v wr => ∃ (j : Nat) (a : Int), (j : Int) ≤ O ∧ v = .int .i64 a ∧ a = T + (-1) * (j : Int) ∧ wr = W3) (fun v _ => (O - (-1) * (intOf v - T)).toNat)
  case atStart => exact ⟨0, T, by omega, rfl, by simp, rfl⟩
  case round =>
    obtain ⟨j, a, hj, rfl, ha, rfl⟩ := hrel
    have ha1 : -39000000 ≤ a ∧ a ≤ 37000000 := by omega
    obtain ⟨a1, a2⟩ := ha1
    obtain ⟨t, ht⟩ : ∃ t, (a + 4).tmod 7 = t := ⟨_, rfl⟩
    obtain ⟨z, hz⟩ : ∃ z, (t + 7).tmod 7 = z := ⟨_, rfl⟩
    have hz2 := mod77 a t z ht hz
    obtain ⟨z1, z2, z3⟩ := hz2
    by_cases hj2 : (j : Int) = O
    · have hzw : z = wk := by rw [z3, ha, hj2]; exact HO2.out.2.2.1
      have q : (z != wk) = false := by rw [hzw]; simp
      have HA := Lib.hid (show a = T + (-1) * O by rw [ha, hj2])
      clear hzw z3 ha hj2 hj
      go_wp2_with fail
      go_ret2
      refine ⟨?_, B3.out⟩
      rw [show num y m (dim y m) = T by rw [HLm.out, ← HT.out, ← HNe.out]; unfold num; omega, HO.out, ← HA.out]
      rfl
    · have hzw : z ≠ wk := by rw [z3, ha]; exact HO2.out.2.2.2 j (by omega)
      have q : (z != wk) = true := by rw [bne_iff_ne]; exact hzw
      have HA := Lib.hid ha
      clear hzw z3 ha
      go_wp2_with fail
      go_roundw
      case rel => exact ⟨j + 1, _, by omega, rfl, by rw [HA.out]; omega, trivial⟩
      case measure =>
        have := HA.out
        simp [intOf]
        omega
end Go.Proofs.YtmkbfjklhejdnaaDoor
