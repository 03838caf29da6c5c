/-
  THE WALKS of the document's answer for civil, without loops.
-/
import Derived.Test.YtmkbfjklhejdnaaDoorCivDays
namespace Go.Proofs.YtmkbfjklhejdnaaDoor
open Go Go.RowKit CivM NumM

theorem rleap_any (y : Int) (w : World) : Calls Tryd.prog 51 #[.int .i64 y] w fun e w' => e = .returned (.bool (lpB y)) ∧ w = w' := by
  have g4 := tm0 y 4
  have g1 := tm0 y 100
  have g2 := tm0 y 400
  by_cases h4 : y % 4 = 0
  · have f4 : (y.tmod 4 == 0) = true := by simpa using g4.2 h4
    by_cases h1 : y % 100 = 0
    · have f1 : (y.tmod 100 != 0) = false := by simpa using g1.2 h1
      by_cases h2 : y % 400 = 0
      · have f2 : (y.tmod 400 == 0) = true := by simpa using g2.2 h2
        have E := Lib.hid (show lpB y = true from decide_eq_true ⟨h4, .inr h2⟩)
        clear g4 g1 g2 h4 h1 h2
        go_enter Tryd.func51, Tryd.ntmps51
        go_wp2
        go_ret
        exact ⟨by first | (rw [E.out]; done) | (rw [E.out]; rfl), rfl⟩
      · have f2 : (y.tmod 400 == 0) = false := by simpa using (not_congr g2).2 h2
        have E := Lib.hid (show lpB y = false from decide_eq_false (by omega))
        clear g4 g1 g2 h4 h1 h2
        go_enter Tryd.func51, Tryd.ntmps51
        go_wp2
        go_ret
        exact ⟨by first | (rw [E.out]; done) | (rw [E.out]; rfl), rfl⟩
    · have f1 : (y.tmod 100 != 0) = true := by simpa using (not_congr g1).2 h1
      have E := Lib.hid (show lpB y = true from decide_eq_true ⟨h4, .inl h1⟩)
      clear g4 g1 g2 h4 h1
      go_enter Tryd.func51, Tryd.ntmps51
      go_wp2
      go_ret
      exact ⟨by first | (rw [E.out]; done) | (rw [E.out]; rfl), rfl⟩
  · have f4 : (y.tmod 4 == 0) = false := by simpa using (not_congr g4).2 h4
    by_cases h2 : y % 400 = 0
    · omega
    · have f2 : (y.tmod 400 == 0) = false := by simpa using (not_congr g2).2 h2
      have E := Lib.hid (show lpB y = false from decide_eq_false (by omega))
      clear g4 g1 g2 h4 h2
      go_enter Tryd.func51, Tryd.ntmps51
      go_wp2
      go_ret
      exact ⟨by first | (rw [E.out]; done) | (rw [E.out]; rfl), rfl⟩
theorem rlong_any (y m : Int) (w : World) : Calls Tryd.prog 32 #[.int .i64 y, .int .i64 m] w fun e w' => e = .returned (.int .i64 (dim y m)) ∧ w = w' := by
  by_cases h2 : m = 2
  · subst h2
    cases h : lpB y with
    | true =>
      have E := Lib.hid (show dim y 2 = 29 by rw [dim_two, lp_t h]; rfl)
      have H := Lib.hid h
      clear h
      go_enter Tryd.func32, Tryd.ntmps32
      go_wp2_with fail
      refine (rleap_any y _).mono ?_
      rintro e w' ⟨rfl, rfl⟩
      rw [H.out]
      go_wp2_with fail
      go_ret
      exact ⟨by first | (rw [E.out]; done) | (rw [E.out]; rfl), rfl⟩
    | false =>
      have E := Lib.hid (show dim y 2 = 28 by rw [dim_two, lp_f h]; rfl)
      have H := Lib.hid h
      clear h
      go_enter Tryd.func32, Tryd.ntmps32
      go_wp2_with fail
      refine (rleap_any y _).mono ?_
      rintro e w' ⟨rfl, rfl⟩
      rw [H.out]
      go_wp2_with fail
      go_ret
      exact ⟨by first | (rw [E.out]; done) | (rw [E.out]; rfl), rfl⟩
  · have h2' : (m == 2) = false := by simpa using h2
    by_cases h4 : m = 4 ∨ m = 6 ∨ m = 9 ∨ m = 11
    · rcases h4 with rfl | rfl | rfl | rfl
      · clear h2 h2'
        go_enter Tryd.func32, Tryd.ntmps32
        go_wp2_with fail
        go_ret
        exact ⟨by simp [dim], rfl⟩
      · clear h2 h2'
        go_enter Tryd.func32, Tryd.ntmps32
        go_wp2_with fail
        go_ret
        exact ⟨by simp [dim], rfl⟩
      · clear h2 h2'
        go_enter Tryd.func32, Tryd.ntmps32
        go_wp2_with fail
        go_ret
        exact ⟨by simp [dim], rfl⟩
      · clear h2 h2'
        go_enter Tryd.func32, Tryd.ntmps32
        go_wp2_with fail
        go_ret
        exact ⟨by simp [dim], rfl⟩
    · have E := Lib.hid (show dim y m = 31 by unfold dim; rw [if_neg h2, if_neg h4])
      have f4 : (m == 4) = false := by simp; omega
      have f6 : (m == 6) = false := by simp; omega
      have f9 : (m == 9) = false := by simp; omega
      have f11 : (m == 11) = false := by simp; omega
      clear h2 h4
      go_enter Tryd.func32, Tryd.ntmps32
      go_wp2_with fail
      go_ret
      exact ⟨by first | (rw [E.out]; done) | (rw [E.out]; rfl), rfl⟩
theorem right_ok (y m d : Int) (w : World) (h : Valid y m d) :
    Calls Tryd.prog 31 #[.agg #[.int .i64 y, .int .i64 m, .int .i64 d]] w fun e w' => e = .returned (.bool true) ∧ Below w.heap.size w w' := by
  obtain ⟨y1, y2, m1, m2, d1, d2⟩ := h
  go_enter Tryd.func31, Tryd.ntmps31
  have HB0 := Lib.hid ((Below.refl w.heap.size w).alloc (Nat.le_refl _) (.cells #[.int .i64 y, .int .i64 m, .int .i64 d] 31))
  go_wp2_with fail
  go_quiet ((go_at_call 32; exact q_same (rlong_any y m _)))
  go_wp2_with fail
  go_ret
  exact ⟨rfl, below_drewN HB0.out _⟩
theorem right_no (y m d : Int) (w : World) (h : ¬ Valid y m d) :
    Calls Tryd.prog 31 #[.agg #[.int .i64 y, .int .i64 m, .int .i64 d]] w fun e w' => e = .returned (.bool false) ∧ Below w.heap.size w w' := by
  by_cases a1 : -100000 ≤ y
  · by_cases a2 : y ≤ 100000
    · by_cases a3 : 1 ≤ m
      · by_cases a4 : m ≤ 12
        · by_cases a5 : 1 ≤ d
          · have a6 : decide (d ≤ dim y m) = false := decide_eq_false fun hn => h ⟨a1, a2, a3, a4, a5, hn⟩
            clear h
            go_enter Tryd.func31, Tryd.ntmps31
            have HB0 := Lib.hid ((Below.refl w.heap.size w).alloc (Nat.le_refl _) (.cells #[.int .i64 y, .int .i64 m, .int .i64 d] 31))
            go_wp2_with fail
            go_quiet ((go_at_call 32; exact q_same (rlong_any y m _)))
            go_wp2_with fail
            go_ret
            exact ⟨rfl, below_drewN HB0.out _⟩
          · have f : decide (1 ≤ d) = false := decide_eq_false a5
            clear h a5
            go_enter Tryd.func31, Tryd.ntmps31
            have HB0 := Lib.hid ((Below.refl w.heap.size w).alloc (Nat.le_refl _) (.cells #[.int .i64 y, .int .i64 m, .int .i64 d] 31))
            go_wp2_with fail
            go_quiet ((go_at_call 32; exact q_same (rlong_any y m _)))
            go_wp2_with fail
            go_ret
            exact ⟨rfl, below_drewN HB0.out _⟩
        · have f : decide (m ≤ 12) = false := decide_eq_false a4
          clear h a4
          go_enter Tryd.func31, Tryd.ntmps31
          have HB0 := Lib.hid ((Below.refl w.heap.size w).alloc (Nat.le_refl _) (.cells #[.int .i64 y, .int .i64 m, .int .i64 d] 31))
          go_wp2_with fail
          go_quiet ((go_at_call 32; exact q_same (rlong_any y m _)))
          go_wp2_with fail
          go_ret
          exact ⟨rfl, below_drewN HB0.out _⟩
      · have f : decide (1 ≤ m) = false := decide_eq_false a3
        clear h a3
        go_enter Tryd.func31, Tryd.ntmps31
        have HB0 := Lib.hid ((Below.refl w.heap.size w).alloc (Nat.le_refl _) (.cells #[.int .i64 y, .int .i64 m, .int .i64 d] 31))
        go_wp2_with fail
        go_quiet ((go_at_call 32; exact q_same (rlong_any y m _)))
        go_wp2_with fail
        go_ret
        exact ⟨rfl, below_drewN HB0.out _⟩
    · have f : decide (y ≤ 100000) = false := decide_eq_false a2
      clear h a2
      go_enter Tryd.func31, Tryd.ntmps31
      have HB0 := Lib.hid ((Below.refl w.heap.size w).alloc (Nat.le_refl _) (.cells #[.int .i64 y, .int .i64 m, .int .i64 d] 31))
      go_wp2_with fail
      go_quiet ((go_at_call 32; exact q_same (rlong_any y m _)))
      go_wp2_with fail
      go_ret
      exact ⟨rfl, below_drewN HB0.out _⟩
  · have f : decide (-100000 ≤ y) = false := decide_eq_false a1
    clear h a1
    go_enter Tryd.func31, Tryd.ntmps31
    have HB0 := Lib.hid ((Below.refl w.heap.size w).alloc (Nat.le_refl _) (.cells #[.int .i64 y, .int .i64 m, .int .i64 d] 31))
    go_wp2_with fail
    go_quiet ((go_at_call 32; exact q_same (rlong_any y m _)))
    go_wp2_with fail
    go_ret
    exact ⟨rfl, below_drewN HB0.out _⟩
theorem ryear_any (y : Int) (w : World) : Calls Tryd.prog 34 #[.int .i64 y] w fun e w' => e = .returned (.int .i64 (365 + lp y)) ∧ w = w' := by
  cases h : lpB y with
  | true =>
    have E := Lib.hid (lp_t h)
    have H := Lib.hid h
    clear h
    go_enter Tryd.func34, Tryd.ntmps34
    go_wp2_with fail
    refine (rleap_any y _).mono ?_
    rintro e w' ⟨rfl, rfl⟩
    rw [H.out]
    go_wp2_with fail
    go_ret
    exact ⟨by first | (rw [E.out]; done) | (rw [E.out]; rfl), rfl⟩
  | false =>
    have E := Lib.hid (lp_f h)
    have H := Lib.hid h
    clear h
    go_enter Tryd.func34, Tryd.ntmps34
    go_wp2_with fail
    refine (rleap_any y _).mono ?_
    rintro e w' ⟨rfl, rfl⟩
    rw [H.out]
    go_wp2_with fail
    go_ret
    exact ⟨by first | (rw [E.out]; done) | (rw [E.out]; rfl), rfl⟩
end Go.Proofs.YtmkbfjklhejdnaaDoor
