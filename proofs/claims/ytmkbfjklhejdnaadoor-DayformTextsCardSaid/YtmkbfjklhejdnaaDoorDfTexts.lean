/-
  THE LAW DayformTexts, walked.
-/
import Derived.Test.YtmkbfjklhejdnaaDoorRText
namespace Go.Proofs.YtmkbfjklhejdnaaDoor.dayformTexts
open Go Go.RowKit CivM NumM
theorem fx_fact : ∀ u : Fin 32, 1 ≤ u.1 → sg (Lib.decDigits u.1) = (-1, 0) ∧ nm (Lib.decDigits u.1) = some u.1 ∧ (Lib.decDigits u.1).length < 4 := by decide +kernel
theorem la_fact : ∀ i : Fin 7, sg ([108, 97, 115, 116] ++ nam i.1) = (-1, 0) ∧ fd ((([108, 97, 115, 116] ++ nam i.1).drop 4).map low) weekdaysL = some i.1 ∧ 4 ≤ ([108, 97, 115, 116] ++ nam i.1).length ∧ ([108, 97, 115, 116] ++ nam i.1).length ≤ 1000 := by decide +kernel
theorem le_fact : ∀ i : Fin 7, ∀ u : Fin 32, 1 ≤ u.1 → sg (nam i.1 ++ [62, 61] ++ Lib.decDigits u.1) = (3, 2) ∧ 5 ≤ (nam i.1 ++ [62, 61] ++ Lib.decDigits u.1).length ∧ (nam i.1 ++ [62, 61] ++ Lib.decDigits u.1).length ≤ 1000 ∧ fd (((nam i.1 ++ [62, 61] ++ Lib.decDigits u.1).take 3).map low) weekdaysL = some i.1 ∧ nm ((nam i.1 ++ [62, 61] ++ Lib.decDigits u.1).drop 5) = some u.1 := by decide +kernel
theorem gr_fact : ∀ i : Fin 7, ∀ u : Fin 32, 1 ≤ u.1 → sg (nam i.1 ++ [60, 61] ++ Lib.decDigits u.1) = (3, 3) ∧ 5 ≤ (nam i.1 ++ [60, 61] ++ Lib.decDigits u.1).length ∧ (nam i.1 ++ [60, 61] ++ Lib.decDigits u.1).length ≤ 1000 ∧ fd (((nam i.1 ++ [60, 61] ++ Lib.decDigits u.1).take 3).map low) weekdaysL = some i.1 ∧ nm ((nam i.1 ++ [60, 61] ++ Lib.decDigits u.1).drop 5) = some u.1 := by decide +kernel
abbrev dayA (k wk n : Int) : Array Value := #[.agg #[.int .i64 k, .int .i64 wk, .int .i64 n]]
set_option maxRecDepth 100000 in
set_option maxHeartbeats 2000000 in
theorem walk_no (k wk n : Int) (w : World) (h : Reads w) (hr : ¬ RightD k wk n) :
    Calls Tryd.prog 8 (dayA k wk n) w (One w) := by
  have SP := Lib.hid (fun w h => print_no k wk n w h hr)
  have EC := Lib.hid (chkV_no hr)
  have ER := Lib.hid (decide_eq_false hr)
  clear hr
  have HR := Lib.hid h
  have HBw := Lib.hid (Below.refl w.heap.size w)
  clear h
  go_enter Tryd.func8, Tryd.ntmps8
  go_upto_region 1 with fail
  generalize hX : w.alloc (.cells #[.int .i64 k, .int .i64 wk, .int .i64 n] 24) = v0
  have sv0 : v0.heap.size = w.heap.size + 1 := by rw [← hX]; simp
  have bv0 : Below w.heap.size w v0 := by rw [← hX]; exact (Below.refl _ _).alloc (Nat.le_refl _) _
  have HYv0 := Lib.hid (show v0.heap[w.heap.size]? = some (.cells #[.int .i64 k, .int .i64 wk, .int .i64 n] 24 (0, 0)) by rw [← hX]; exact heap_alloc_new w _)
  have HBv0 := Lib.hid (HBw.out.trans (bv0.mono HBw.out.size))
  clear hX
  obtain ⟨p0, p1, p2⟩ := row3_cells HYv0.out
  go_wp2_with fail
  refine (SP.out _ (HR.out.below HBv0.out)).mono ?_
  rintro e w1 ⟨rfl, hbw1⟩
  have HBw1 := Lib.hid (HBv0.out.trans (hbw1.mono HBv0.out.size))
  have HD1 := Lib.hid ((hbw1.block w.heap.size (by omega)).trans HYv0.out)
  have sw1 := hbw1.size
  clear hbw1 p0 p1 p2
  obtain ⟨p0, p1, p2⟩ := row3_cells HD1.out
  go_wp2_with fail
  refine (rright_any k wk n _).mono ?_
  rintro e w2 ⟨rfl, hbw2⟩
  have HBw2 := Lib.hid (HBw1.out.trans (hbw2.mono HBw1.out.size))
  rw [ER.out]
  have HD2 := Lib.hid ((hbw2.block w.heap.size (by omega)).trans HD1.out)
  have sw2 := hbw2.size
  clear hbw2 p0 p1 p2
  obtain ⟨p0, p1, p2⟩ := row3_cells HD2.out
  go_wp2_with fail
  refine (check_day k wk n _).mono ?_
  rintro e w3 ⟨rfl, hbw3⟩
  have HBw3 := Lib.hid (HBw2.out.trans (hbw3.mono HBw2.out.size))
  rw [EC.out]
  clear hbw3 p0 p1 p2
  go_wp2_with fail
  refine (awake_any _ (HR.out.below HBw3.out)).mono ?_
  rintro e w4 ⟨rfl, hbw4⟩
  have HBw4 := Lib.hid (HBw3.out.trans (hbw4.mono HBw3.out.size))
  go_wp2_with fail
  go_ret
  exact ⟨rfl, HBw4.out⟩
set_option maxRecDepth 100000 in
set_option maxHeartbeats 2000000 in
theorem walk_good (k wk n : Int) (T : List UInt8) (w : World) (h : Reads w) (hr : RightD k wk n)
    (hP : ∀ w, Reads w → Calls Tryd.prog 19 (dayA k wk n) w fun e w' => e = .returned (.tuple #[.string ⟨T.toArray⟩, .int .i64 0]) ∧ Below w.heap.size w w')
    (hT : ∀ w, Calls Tryd.prog 21 (dayA k wk n) w fun e w' => e = .returned (.string ⟨T.toArray⟩) ∧ Below w.heap.size w w')
    (hQ : ∀ w, Reads w → Calls Tryd.prog 10 #[.string ⟨T.toArray⟩] w fun e w' => e = .returned (dayV k wk n) ∧ Below w.heap.size w w') :
    Calls Tryd.prog 8 (dayA k wk n) w (One w) := by
  have SP := Lib.hid hP
  have ST := Lib.hid hT
  have SQ := Lib.hid hQ
  have EC := Lib.hid (chkV_ok hr)
  have ER := Lib.hid (decide_eq_true hr)
  clear hr hP hT hQ
  have HR := Lib.hid h
  have HBw := Lib.hid (Below.refl w.heap.size w)
  clear h
  go_enter Tryd.func8, Tryd.ntmps8
  go_upto_region 1 with fail
  generalize hX : w.alloc (.cells #[.int .i64 k, .int .i64 wk, .int .i64 n] 24) = v0
  have sv0 : v0.heap.size = w.heap.size + 1 := by rw [← hX]; simp
  have bv0 : Below w.heap.size w v0 := by rw [← hX]; exact (Below.refl _ _).alloc (Nat.le_refl _) _
  have HYv0 := Lib.hid (show v0.heap[w.heap.size]? = some (.cells #[.int .i64 k, .int .i64 wk, .int .i64 n] 24 (0, 0)) by rw [← hX]; exact heap_alloc_new w _)
  have HBv0 := Lib.hid (HBw.out.trans (bv0.mono HBw.out.size))
  clear hX
  obtain ⟨p0, p1, p2⟩ := row3_cells HYv0.out
  go_wp2_with fail
  refine (SP.out _ (HR.out.below HBv0.out)).mono ?_
  rintro e w1 ⟨rfl, hbw1⟩
  have HBw1 := Lib.hid (HBv0.out.trans (hbw1.mono HBv0.out.size))
  have HD1 := Lib.hid ((hbw1.block w.heap.size (by omega)).trans HYv0.out)
  have sw1 := hbw1.size
  clear hbw1 p0 p1 p2
  obtain ⟨p0, p1, p2⟩ := row3_cells HD1.out
  go_wp2_with fail
  refine (rright_any k wk n _).mono ?_
  rintro e w2 ⟨rfl, hbw2⟩
  have HBw2 := Lib.hid (HBw1.out.trans (hbw2.mono HBw1.out.size))
  rw [ER.out]
  have HD2 := Lib.hid ((hbw2.block w.heap.size (by omega)).trans HD1.out)
  have sw2 := hbw2.size
  clear hbw2 p0 p1 p2
  obtain ⟨p0, p1, p2⟩ := row3_cells HD2.out
  go_wp2_with fail
  refine (SQ.out _ (HR.out.below HBw2.out)).mono ?_
  rintro e w3 ⟨rfl, hbw3⟩
  have HBw3 := Lib.hid (HBw2.out.trans (hbw3.mono HBw2.out.size))
  have HD3 := Lib.hid ((hbw3.block w.heap.size (by omega)).trans HD2.out)
  have sw3 := hbw3.size
  clear hbw3 p0 p1 p2
  go_upto_region 5 with fail
  generalize hX : w3.alloc (.cells #[.int .i64 k, .int .i64 wk, .int .i64 n] 24) = v3
  have sv3 : v3.heap.size = w3.heap.size + 1 := by rw [← hX]; simp
  have bv3 : Below w3.heap.size w3 v3 := by rw [← hX]; exact (Below.refl _ _).alloc (Nat.le_refl _) _
  have HYv3 := Lib.hid (show v3.heap[w3.heap.size]? = some (.cells #[.int .i64 k, .int .i64 wk, .int .i64 n] 24 (0, 0)) by rw [← hX]; exact heap_alloc_new w3 _)
  have HBv3 := Lib.hid (HBw3.out.trans (bv3.mono HBw3.out.size))
  clear hX
  have HD4 := Lib.hid ((bv3.block w.heap.size (by omega)).trans HD3.out)
  obtain ⟨p0, p1, p2⟩ := row3_cells HD4.out
  go_wp2_with fail
  refine (check_day k wk n _).mono ?_
  rintro e w4 ⟨rfl, hbw4⟩
  have HBw4 := Lib.hid (HBv3.out.trans (hbw4.mono HBv3.out.size))
  rw [EC.out]
  have HD5 := Lib.hid ((hbw4.block w.heap.size (by omega)).trans HD4.out)
  have HX5 := Lib.hid ((hbw4.block w3.heap.size (by omega)).trans HYv3.out)
  have sw4 := hbw4.size
  clear hbw4 p0 p1 p2
  obtain ⟨p0, p1, p2⟩ := row3_cells HD5.out
  go_wp2_with fail
  refine (ST.out _).mono ?_
  rintro e w5 ⟨rfl, hbw5⟩
  have HBw5 := Lib.hid (HBw4.out.trans (hbw5.mono HBw4.out.size))
  have HD6 := Lib.hid ((hbw5.block w.heap.size (by omega)).trans HD5.out)
  have HX6 := Lib.hid ((hbw5.block w3.heap.size (by omega)).trans HX5.out)
  have sw5 := hbw5.size
  clear hbw5 p0 p1 p2
  obtain ⟨p0, p1, p2⟩ := row3_cells HD6.out
  obtain ⟨r0, r1, r2⟩ := row3_cells HX6.out
  go_wp2_with fail
  refine (awake_any _ (HR.out.below HBw5.out)).mono ?_
  rintro e w6 ⟨rfl, hbw6⟩
  have HBw6 := Lib.hid (HBw5.out.trans (hbw6.mono HBw5.out.size))
  clear p0 p1 p2 r0 r1 r2
  go_wp2_with fail
  go_ret
  exact ⟨rfl, HBw6.out⟩
theorem walk (k wk n : Int) (w : World) (h : Reads w) :
    Calls Tryd.prog 8 (dayA k wk n) w (One w) := by
  by_cases hr : RightD k wk n
  · have hk := rightD_kind hr
    have hw : 0 ≤ wk ∧ wk ≤ 6 := by rcases hr with q | q | q <;> omega
    have hn : 0 ≤ n ∧ n ≤ 31 := by rcases hr with q | q | q <;> omega
    obtain ⟨i, rfl⟩ : ∃ i : Nat, wk = (i : Int) := ⟨wk.toNat, by omega⟩
    obtain ⟨u, rfl⟩ : ∃ u : Nat, n = (u : Int) := ⟨n.toNat, by omega⟩
    have hi : i < 7 := by omega
    have hu : u < 32 := by omega
    rcases hk with rfl | rfl | rfl | rfl
    · obtain rfl : i = 0 := by rcases hr with q | q | q <;> omega
      have hu1 : 1 ≤ u := by rcases hr with q | q | q <;> omega
      obtain ⟨f1, f2, f3⟩ := fx_fact ⟨u, hu⟩ hu1
      exact walk_good 0 _ u (Lib.decDigits u) w h hr (fun w h => print_fixed u w h hr (by omega)) (fun w => by
        by_cases q : u < 10
        · exact rtext_fixed1 u w q
        · exact rtext_fixed2 u w (by omega) (by omega)) (fun w h => parse_num_ok _ u w (by have := f3; simp only at this; omega) h.p f1 f3 f2 (by omega))
    · obtain rfl : u = 0 := by rcases hr with q | q | q <;> omega
      obtain ⟨f1, f2, f3, f4⟩ := la_fact ⟨i, hi⟩
      exact walk_good 1 i _ ([108, 97, 115, 116] ++ nam i) w h hr (fun w h => print_last i w h hr hi) (fun w => rtext_last i w hi) (fun w h => parse_last_ok _ i w f4 h.p f1 f3 (eql_last _ rfl) f2)
    · have hu1 : 1 ≤ u := by rcases hr with q | q | q <;> omega
      obtain ⟨f1, f2, f3, f4, f5⟩ := le_fact ⟨i, hi⟩ ⟨u, hu⟩ hu1
      exact walk_good 2 i u (nam i ++ [62, 61] ++ Lib.decDigits u) w h hr (fun w h => print_sign 2 i u w h hr (.inl rfl) hi (by omega)) (fun w => by
        by_cases q : u < 10
        · exact rtext_less1 i u w hi q
        · exact rtext_less2 i u w hi (by omega) (by omega)) (fun w h => parse_sign_ok _ 3 i u 2 w f3 h.p f1 (.inl rfl) f2 f4 f5 (by omega))
    · have hu1 : 1 ≤ u := by rcases hr with q | q | q <;> omega
      obtain ⟨f1, f2, f3, f4, f5⟩ := gr_fact ⟨i, hi⟩ ⟨u, hu⟩ hu1
      exact walk_good 3 i u (nam i ++ [60, 61] ++ Lib.decDigits u) w h hr (fun w h => print_sign 3 i u w h hr (.inr rfl) hi (by omega)) (fun w => by
        by_cases q : u < 10
        · exact rtext_greater1 i u w hi q
        · exact rtext_greater2 i u w hi (by omega) (by omega)) (fun w h => parse_sign_ok _ 3 i u 3 w f3 h.p f1 (.inr rfl) f2 f4 f5 (by omega))
  · exact walk_no k wk n w h hr
end Go.Proofs.YtmkbfjklhejdnaaDoor.dayformTexts
